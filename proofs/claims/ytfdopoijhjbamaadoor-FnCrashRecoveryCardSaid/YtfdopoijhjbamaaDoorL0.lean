/- Plain words and laws that the walks share. -/
import Derived.Test.YtfdopoijhjbamaaDoorCx
import Derived.Test.YtfdopoijhjbamaaDoorAwW
import Derived.KernelRfl
import Derived.Test.YtfdopoijhjbamaaDoorAwY
namespace Go.Proofs.YtfdopoijhjbamaaDoor
open Go.Aw
set_option linter.unusedSimpArgs false
set_option linter.unusedVariables false
abbrev aI (x : Int) : AV := .c (.s (.int .i64 x))
abbrev aB (x : Bool) : AV := .c (.s (.bool x))
abbrev aS (x : ByteArray) : AV := .c (.s (.string x))
abbrev pL (n : Nat) : Option AT := some (.v (.c (.pt (.l n) 0)))
abbrev sI (x : Int) : Option AT := some (.v (.c (.s (.int .i64 x))))
abbrev sB (x : Bool) : Option AT := some (.v (.c (.s (.bool x))))
abbrev sS (x : ByteArray) : Option AT := some (.v (.c (.s (.string x))))
abbrev sC (x : AC) : Option AT := some (.v (.c x))
def eI (x : Int) : List AC := [.s (.int .i64 x)]
theorem lI : ∀ x, (eI x).length = 1 := fun _ => rfl
theorem pI : ∀ x, ∀ c ∈ eI x, c.ids = [] := fun x c hc => by simp only [eI, List.mem_singleton] at hc; subst hc; rfl
abbrev bI (xs : List Int) : Option Blk := some ⟨xs.flatMap eI, true, 1⟩
theorem all_take {α : Type} {p : α → Bool} {xs : List α} {i : Nat} {x : α} (h : (xs.take i).all p = true) (hx : xs[i]? = some x) (hp : p x = true) : (xs.take (i + 1)).all p = true := by
  rw [List.take_add_one, hx]; simp [h, hp]
theorem all_not {α : Type} {p : α → Bool} {xs : List α} {i : Nat} {x : α} (hx : xs[i]? = some x) (hp : p x = false) : xs.all p = false := by
  rw [List.all_eq_false]; exact ⟨x, List.mem_of_getElem? hx, by simp [hp]⟩
theorem at_lt {α : Type} (xs : List α) {i : Nat} (h : i < xs.length) : ∃ x, xs[i]? = some x := ⟨xs[i], by simp [h]⟩
theorem range_step {p : Nat → Bool} {i : Nat} (h : (List.range i).all p = true) (hp : p i = true) : (List.range (i + 1)).all p = true := by
  rw [List.range_succ]; simp [h, hp]
theorem range_not {p : Nat → Bool} {i n : Nat} (h : i < n) (hp : p i = false) : (List.range n).all p = false := by
  rw [List.all_eq_false]; exact ⟨i, List.mem_range.2 h, by simp [hp]⟩
theorem getD_at {α : Type} {xs : List α} {i : Nat} {x z : α} (h : xs[i]? = some x) : xs.getD i z = x := by
  rw [List.getD_eq_getElem?_getD, h]; rfl
/-- Where the first stands for which p holds. -/
def idxP {α : Type} (p : α → Bool) (xs : List α) : Int := if xs.any p then (xs.findIdx p : Int) else -1
theorem idx_at {α : Type} {p : α → Bool} {xs : List α} {i : Nat} {x : α} (h : (xs.take i).any p = false) (hx : xs[i]? = some x) (hp : p x = true) : idxP p xs = i := by
  have hlt := (List.getElem?_eq_some_iff.1 hx).1
  have ha : xs.any p = true := List.any_eq_true.2 ⟨x, List.mem_of_getElem? hx, hp⟩
  rw [idxP, if_pos ha]
  congr 1
  rw [List.findIdx_eq hlt]
  refine ⟨by rw [List.getElem?_eq_getElem hlt] at hx; cases hx; exact hp, fun j hj => ?_⟩
  have := List.any_eq_false.1 h xs[j] (List.mem_take_iff_getElem.2 ⟨j, by omega, rfl⟩)
  simpa using this
def within (a b c : Int) : Bool := decide (b ≤ a) && decide (a ≤ c)
def szI (n left : Int) : Int := if left - n < 0 then -1 else left - n
theorem sz_le {n : Nat} {left : Int} (h : ¬ szI n left < 0) (hl : left ≤ 1048576) : szI n left = left - n ∧ (n : Int) ≤ left := by
  unfold szI at h ⊢
  split at h
  · omega
  · rename_i h'; rw [if_neg h']; omega
end Go.Proofs.YtfdopoijhjbamaaDoor
