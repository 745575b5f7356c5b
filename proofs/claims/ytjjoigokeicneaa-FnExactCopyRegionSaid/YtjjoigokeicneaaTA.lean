import Derived.Test.YtjjoigokeicneaaCx
import Derived.Test.YtjjoigokeicneaaAwS
import Derived.KernelRfl
namespace Go.Proofs.Ytjjoigokeicneaa
open Go.Aw
set_option maxRecDepth 100000
set_option linter.unusedSimpArgs false
set_option linter.unusedVariables false
abbrev aI (x : Int) : AV := .c (.s (.int .i64 x))
abbrev aB (x : Bool) : AV := .c (.s (.bool x))
abbrev aF (w h : Int) (v : AC) : AV := .ag [.s (.int .i64 w), .s (.int .i64 h), v]
abbrev pL (n : Nat) : Option AT := some (.v (.c (.pt (.l n) 0)))
abbrev sI (x : Int) : Option AT := some (.v (.c (.s (.int .i64 x))))
abbrev sC (x : AC) : Option AT := some (.v (.c x))
def eI (x : Int) : List AC := [.s (.int .i64 x)]
theorem all_take {α : Type} {p : α → Bool} {xs : List α} {i : Nat} {x : α} (h : (xs.take i).all p = true) (hx : xs[i]? = some x) (hp : p x = true) : (xs.take (i + 1)).all p = true := by
  rw [List.take_add_one, hx]; simp [h, hp]
theorem all_not {α : Type} {p : α → Bool} {xs : List α} {i : Nat} {x : α} (hx : xs[i]? = some x) (hp : p x = false) : xs.all p = false := by
  rw [List.all_eq_false]; exact ⟨x, List.mem_of_getElem? hx, by simp [hp]⟩
theorem at_lt {α : Type} (xs : List α) {i : Nat} (h : i < xs.length) : ∃ x, xs[i]? = some x := ⟨xs[i], by simp [h]⟩

def within (a b c : Int) : Bool := decide (b ≤ a) && decide (a ≤ c)
theorem c82 (H : Heap) {a b c : Int} : ACalls cx 82 [aI a, aI b, aI c] H (Vb (within a b c)) H := by
  refine acalls0 Try.func82 rfl rfl (fun S hS hw => ?_)
  refine aw_seq ?_
  refine aw_region ?_
  refine rr_pure (rp rfl) rfl rfl rfl ?_
  refine rr_nil rfl ?_
  refine then_n ?_
  refine aw_seq ?_
  refine aw_region ?_
  refine rr_pure (rp rfl) rfl rfl rfl ?_
  refine rr_pure (rp rfl) rfl rfl rfl ?_
  refine rr_pure (rp rfl) rfl rfl rfl ?_
  refine rr_pure (rp rfl) rfl rfl rfl ?_
  refine rr_split rfl (fun g1 => ?_) (fun g1 => ?_)
  · have g1p := g1; try simp only [decide_eq_true_eq, decide_eq_false_iff_not, Bool.not_eq_true', Bool.not_eq_false', bne_iff_ne, ne_eq, bne_eq_false_iff_eq, beq_iff_eq, beq_eq_false_iff_ne, Int.natCast_inj] at g1p
    refine rr_pure (rp rfl) rfl rfl g1 ?_
    refine rr_pure (rp rfl) rfl rfl g1 ?_
    refine rr_pure (rp rfl) rfl rfl g1 ?_
    refine rr_pure (r_pick_t rfl rfl g1 rfl) rfl rfl rfl ?_
    refine rr_pure (rp rfl) rfl rfl rfl ?_
    refine rr_nil rfl ?_
    refine then_n ?_
    refine aw_ret ?_
    exact fin_b rfl (by first | (simp_all [within]; done) | (simp_all [within]; omega))
  · have g1p := g1; try simp only [decide_eq_true_eq, decide_eq_false_iff_not, Bool.not_eq_true', Bool.not_eq_false', bne_iff_ne, ne_eq, bne_eq_false_iff_eq, beq_iff_eq, beq_eq_false_iff_ne, Int.natCast_inj] at g1p
    refine rr_skip rfl rfl g1 ?_
    refine rr_skip rfl rfl g1 ?_
    refine rr_skip rfl rfl g1 ?_
    refine rr_pure (r_pick_f rfl rfl g1 rfl) rfl rfl rfl ?_
    refine rr_pure (rp rfl) rfl rfl rfl ?_
    refine rr_nil rfl ?_
    refine then_n ?_
    refine aw_ret ?_
    exact fin_b rfl (by first | (simp_all [within]; done) | (simp_all [within]; omega))
theorem c56 (H : Heap) {a b c : Int} : ACalls cx 56 [aI a, aI b, aI c] H (Vb (within a b c)) H := by
  refine acalls0 Try.func56 rfl rfl (fun S hS hw => ?_)
  refine aw_seq ?_
  refine aw_region ?_
  refine rr_pure (rp rfl) rfl rfl rfl ?_
  refine rr_nil rfl ?_
  refine then_n ?_
  refine aw_seq ?_
  refine aw_region ?_
  refine rr_pure (rp rfl) rfl rfl rfl ?_
  refine rr_pure (rp rfl) rfl rfl rfl ?_
  refine rr_pure (rp rfl) rfl rfl rfl ?_
  refine rr_pure (rp rfl) rfl rfl rfl ?_
  refine rr_split rfl (fun g1 => ?_) (fun g1 => ?_)
  · have g1p := g1; try simp only [decide_eq_true_eq, decide_eq_false_iff_not, Bool.not_eq_true', Bool.not_eq_false', bne_iff_ne, ne_eq, bne_eq_false_iff_eq, beq_iff_eq, beq_eq_false_iff_ne, Int.natCast_inj] at g1p
    refine rr_pure (rp rfl) rfl rfl g1 ?_
    refine rr_pure (rp rfl) rfl rfl g1 ?_
    refine rr_pure (rp rfl) rfl rfl g1 ?_
    refine rr_pure (r_pick_t rfl rfl g1 rfl) rfl rfl rfl ?_
    refine rr_pure (rp rfl) rfl rfl rfl ?_
    refine rr_nil rfl ?_
    refine then_n ?_
    refine aw_ret ?_
    exact fin_b rfl (by first | (simp_all [within]; done) | (simp_all [within]; omega))
  · have g1p := g1; try simp only [decide_eq_true_eq, decide_eq_false_iff_not, Bool.not_eq_true', Bool.not_eq_false', bne_iff_ne, ne_eq, bne_eq_false_iff_eq, beq_iff_eq, beq_eq_false_iff_ne, Int.natCast_inj] at g1p
    refine rr_skip rfl rfl g1 ?_
    refine rr_skip rfl rfl g1 ?_
    refine rr_skip rfl rfl g1 ?_
    refine rr_pure (r_pick_f rfl rfl g1 rfl) rfl rfl rfl ?_
    refine rr_pure (rp rfl) rfl rfl rfl ?_
    refine rr_nil rfl ?_
    refine then_n ?_
    refine aw_ret ?_
    exact fin_b rfl (by first | (simp_all [within]; done) | (simp_all [within]; omega))
def shape (w h : Int) : Bool := within w 1 8 && within h 1 8
theorem c106 (H : Heap) {w h : Int} : ACalls cx 106 [aI w, aI h] H (Vb (shape w h)) H := by
  refine acalls0 Try.func106 rfl rfl (fun S hS hw => ?_)
  refine aw_seq ?_
  refine aw_region ?_
  refine rr_pure (rp rfl) rfl rfl rfl ?_
  refine rr_nil rfl ?_
  refine then_n ?_
  refine aw_seq ?_
  refine aw_region ?_
  refine rr_pure (rp rfl) rfl rfl rfl ?_
  refine rr_read (r_callF rfl rfl rfl (c82 _)) rfl rfl rfl  ?_
  refine rr_pure (rp rfl) rfl rfl rfl ?_
  refine rr_split rfl (fun g1 => ?_) (fun g1 => ?_)
  · have g1p := g1; try simp only [decide_eq_true_eq, decide_eq_false_iff_not, Bool.not_eq_true', Bool.not_eq_false', bne_iff_ne, ne_eq, bne_eq_false_iff_eq, beq_iff_eq, beq_eq_false_iff_ne, Int.natCast_inj] at g1p
    refine rr_pure (rp rfl) rfl rfl g1 ?_
    refine rr_read (r_callF rfl rfl rfl (c82 _)) rfl rfl g1  ?_
    refine rr_pure (r_pick_t rfl rfl g1 rfl) rfl rfl rfl ?_
    refine rr_pure (rp rfl) rfl rfl rfl ?_
    refine rr_nil rfl ?_
    refine then_n ?_
    refine aw_ret ?_
    exact fin_b rfl (by simp_all [shape])
  · have g1p := g1; try simp only [decide_eq_true_eq, decide_eq_false_iff_not, Bool.not_eq_true', Bool.not_eq_false', bne_iff_ne, ne_eq, bne_eq_false_iff_eq, beq_iff_eq, beq_eq_false_iff_ne, Int.natCast_inj] at g1p
    refine rr_skip rfl rfl g1 ?_
    refine rr_skip rfl rfl g1 ?_
    refine rr_pure (r_pick_f rfl rfl g1 rfl) rfl rfl rfl ?_
    refine rr_pure (rp rfl) rfl rfl rfl ?_
    refine rr_nil rfl ?_
    refine then_n ?_
    refine aw_ret ?_
    exact fin_b rfl (by simp_all [shape])
theorem c109 (H : Heap) {w h : Int} : ACalls cx 109 [aI w, aI h] H (Vb (shape w h)) H := by
  refine acalls0 Try.func109 rfl rfl (fun S hS hw => ?_)
  refine aw_seq ?_
  refine aw_region ?_
  refine rr_pure (rp rfl) rfl rfl rfl ?_
  refine rr_nil rfl ?_
  refine then_n ?_
  refine aw_seq ?_
  refine aw_region ?_
  refine rr_pure (rp rfl) rfl rfl rfl ?_
  refine rr_read (r_callF rfl rfl rfl (c56 _)) rfl rfl rfl  ?_
  refine rr_pure (rp rfl) rfl rfl rfl ?_
  refine rr_split rfl (fun g1 => ?_) (fun g1 => ?_)
  · have g1p := g1; try simp only [decide_eq_true_eq, decide_eq_false_iff_not, Bool.not_eq_true', Bool.not_eq_false', bne_iff_ne, ne_eq, bne_eq_false_iff_eq, beq_iff_eq, beq_eq_false_iff_ne, Int.natCast_inj] at g1p
    refine rr_pure (rp rfl) rfl rfl g1 ?_
    refine rr_read (r_callF rfl rfl rfl (c56 _)) rfl rfl g1  ?_
    refine rr_pure (r_pick_t rfl rfl g1 rfl) rfl rfl rfl ?_
    refine rr_pure (rp rfl) rfl rfl rfl ?_
    refine rr_nil rfl ?_
    refine then_n ?_
    refine aw_ret ?_
    exact fin_b rfl (by simp_all [shape])
  · have g1p := g1; try simp only [decide_eq_true_eq, decide_eq_false_iff_not, Bool.not_eq_true', Bool.not_eq_false', bne_iff_ne, ne_eq, bne_eq_false_iff_eq, beq_iff_eq, beq_eq_false_iff_ne, Int.natCast_inj] at g1p
    refine rr_skip rfl rfl g1 ?_
    refine rr_skip rfl rfl g1 ?_
    refine rr_pure (r_pick_f rfl rfl g1 rfl) rfl rfl rfl ?_
    refine rr_pure (rp rfl) rfl rfl rfl ?_
    refine rr_nil rfl ?_
    refine then_n ?_
    refine aw_ret ?_
    exact fin_b rfl (by simp_all [shape])
theorem shape_b {w h : Int} (hs : shape w h = true) : 1 ≤ w * h ∧ w * h ≤ 64 ∧ 1 ≤ w ∧ w ≤ 8 ∧ 1 ≤ h ∧ h ≤ 8 := by
  simp only [shape, within, Bool.and_eq_true, decide_eq_true_eq] at hs
  obtain ⟨⟨h1, h2⟩, h3, h4⟩ := hs
  refine ⟨?_, ?_, h1, h2, h3, h4⟩
  · have := Int.mul_le_mul h1 h3 (by omega) (by omega); omega
  · have := Int.mul_le_mul h2 h4 (by omega) (by omega); omega
def okVal (x : Int) : Bool := x == -9999 || within x (-9000) 9000
theorem c78 (H : Heap) {x : Int} : ACalls cx 78 [aI x] H (Vb (okVal x)) H := by
  refine acalls0 Try.func78 rfl rfl (fun S hS hw => ?_)
  refine aw_seq ?_
  refine aw_region ?_
  refine rr_pure (rp rfl) rfl rfl rfl ?_
  refine rr_nil rfl ?_
  refine then_n ?_
  refine aw_seq ?_
  refine aw_region ?_
  refine rr_pure (rp rfl) rfl rfl rfl ?_
  refine rr_pure (rp rfl) rfl rfl rfl ?_
  refine rr_pure (rp rfl) rfl rfl rfl ?_
  refine rr_split rfl (fun g1 => ?_) (fun g1 => ?_)
  · have g1p := g1; try simp only [decide_eq_true_eq, decide_eq_false_iff_not, Bool.not_eq_true', Bool.not_eq_false', bne_iff_ne, ne_eq, bne_eq_false_iff_eq, beq_iff_eq, beq_eq_false_iff_ne, Int.natCast_inj] at g1p
    refine rr_skip rfl rfl g1 ?_
    refine rr_skip rfl rfl g1 ?_
    refine rr_pure (r_pick_t rfl rfl g1 rfl) rfl rfl rfl ?_
    refine rr_pure (rp rfl) rfl rfl rfl ?_
    refine rr_nil rfl ?_
    refine then_n ?_
    refine aw_ret ?_
    exact fin_b rfl (by simp_all [okVal])
  · have g1p := g1; try simp only [decide_eq_true_eq, decide_eq_false_iff_not, Bool.not_eq_true', Bool.not_eq_false', bne_iff_ne, ne_eq, bne_eq_false_iff_eq, beq_iff_eq, beq_eq_false_iff_ne, Int.natCast_inj] at g1p
    refine rr_pure (rp rfl) rfl rfl g1 ?_
    refine rr_read (r_callF rfl rfl rfl (c82 _)) rfl rfl g1  ?_
    refine rr_pure (r_pick_f rfl rfl g1 rfl) rfl rfl rfl ?_
    refine rr_pure (rp rfl) rfl rfl rfl ?_
    refine rr_nil rfl ?_
    refine then_n ?_
    refine aw_ret ?_
    exact fin_b rfl (by simp_all [okVal])
theorem c65 (H : Heap) {x : Int} : ACalls cx 65 [aI x] H (Vb (okVal x)) H := by
  refine acalls0 Try.func65 rfl rfl (fun S hS hw => ?_)
  refine aw_seq ?_
  refine aw_region ?_
  refine rr_pure (rp rfl) rfl rfl rfl ?_
  refine rr_nil rfl ?_
  refine then_n ?_
  refine aw_seq ?_
  refine aw_region ?_
  refine rr_pure (rp rfl) rfl rfl rfl ?_
  refine rr_pure (rp rfl) rfl rfl rfl ?_
  refine rr_pure (rp rfl) rfl rfl rfl ?_
  refine rr_split rfl (fun g1 => ?_) (fun g1 => ?_)
  · have g1p := g1; try simp only [decide_eq_true_eq, decide_eq_false_iff_not, Bool.not_eq_true', Bool.not_eq_false', bne_iff_ne, ne_eq, bne_eq_false_iff_eq, beq_iff_eq, beq_eq_false_iff_ne, Int.natCast_inj] at g1p
    refine rr_skip rfl rfl g1 ?_
    refine rr_skip rfl rfl g1 ?_
    refine rr_pure (r_pick_t rfl rfl g1 rfl) rfl rfl rfl ?_
    refine rr_pure (rp rfl) rfl rfl rfl ?_
    refine rr_nil rfl ?_
    refine then_n ?_
    refine aw_ret ?_
    exact fin_b rfl (by simp_all [okVal])
  · have g1p := g1; try simp only [decide_eq_true_eq, decide_eq_false_iff_not, Bool.not_eq_true', Bool.not_eq_false', bne_iff_ne, ne_eq, bne_eq_false_iff_eq, beq_iff_eq, beq_eq_false_iff_ne, Int.natCast_inj] at g1p
    refine rr_pure (rp rfl) rfl rfl g1 ?_
    refine rr_read (r_callF rfl rfl rfl (c56 _)) rfl rfl g1  ?_
    refine rr_pure (r_pick_f rfl rfl g1 rfl) rfl rfl rfl ?_
    refine rr_pure (rp rfl) rfl rfl rfl ?_
    refine rr_nil rfl ?_
    refine then_n ?_
    refine aw_ret ?_
    exact fin_b rfl (by simp_all [okVal])
def szI (n left : Int) : Int := if left - n < 0 then -1 else left - n
theorem c67 (H : Heap) {v : AC} {xs : List Int} {left : Int} (hr : ∃ H sz, Rd (α := Int) cx H sz eI v xs) (hn : xs.length ≤ 2 ^ 44) (hl : 0 ≤ left ∧ left ≤ 2 ^ 20) : ACalls cx 67 [.c v, aI left] H (Vi .i64 (szI xs.length left)) H := by
  refine acalls0 Try.func67 rfl rfl (fun S hS hw => ?_)
  refine aw_seq ?_
  refine aw_region ?_
  refine rr_pure (rp rfl) rfl rfl rfl ?_
  refine rr_nil rfl ?_
  refine then_n ?_
  refine aw_seq ?_
  refine aw_region ?_
  refine rr_pure (rp rfl) rfl rfl rfl ?_
  refine rr_pure (rp rfl) rfl rfl rfl ?_
  first
    | refine rr_pure (rp rfl) rfl rfl rfl ?_
    | refine rr_pure (r_lenR rfl rfl rfl ⟨_, _, hr.choose_spec.choose_spec⟩) rfl rfl rfl ?_
  refine rr_pure (r_subn rfl rfl rfl ⟨by omega, by omega⟩) rfl rfl rfl ?_
  refine rr_pure (rp rfl) rfl rfl rfl ?_
  refine rr_nil rfl ?_
  refine then_n ?_
  refine aw_seq ?_
  refine aw_seq ?_
  refine aw_region ?_
  refine rr_pure (rp rfl) rfl rfl rfl ?_
  refine rr_pure (rp rfl) rfl rfl rfl ?_
  refine rr_nil rfl ?_
  refine then_n ?_
  refine aw_cond rfl (fun b1 => ?_) (fun b1 => ?_)
  · have b1p := b1; try simp only [decide_eq_true_eq, decide_eq_false_iff_not, Bool.not_eq_true', Bool.not_eq_false', bne_iff_ne, ne_eq, bne_eq_false_iff_eq, beq_iff_eq, beq_eq_false_iff_ne, Int.natCast_inj] at b1p
    refine aw_seq ?_
    refine aw_region ?_
    refine rr_pure (rp rfl) rfl rfl rfl ?_
    refine rr_nil rfl ?_
    refine then_n ?_
    refine aw_ret ?_
    refine then_r ?_
    exact fin_i rfl (by simp_all [szI] <;> omega)
  · have b1p := b1; try simp only [decide_eq_true_eq, decide_eq_false_iff_not, Bool.not_eq_true', Bool.not_eq_false', bne_iff_ne, ne_eq, bne_eq_false_iff_eq, beq_iff_eq, beq_eq_false_iff_ne, Int.natCast_inj] at b1p
    refine aw_skip ?_
    refine then_n ?_
    refine aw_seq ?_
    refine aw_region ?_
    refine rr_pure (rp rfl) rfl rfl rfl ?_
    refine rr_pure (rp rfl) rfl rfl rfl ?_
    refine rr_nil rfl ?_
    refine then_n ?_
    refine aw_ret ?_
    exact fin_i rfl (by simp_all [szI] <;> omega)
theorem c26 (H : Heap) {w h : Int} {v : AC} {xs : List Int} {left : Int} (hr : ∃ H sz, Rd (α := Int) cx H sz eI v xs) (hn : xs.length ≤ 2 ^ 44) (hl : 0 ≤ left ∧ left ≤ 2 ^ 20) : ACalls cx 26 [aF w h v, aI left] H (Vi .i64 (szI xs.length left)) H := by
  refine acalls0 Try.func26 rfl rfl (fun S hS hw => ?_)
  refine aw_seq ?_
  refine aw_region ?_
  refine rr_memL (r_boxL rfl rfl) rfl rfl rfl ?_
  refine rr_pure (rp rfl) rfl rfl rfl ?_
  refine rr_nil rfl ?_
  refine then_n ?_
  refine aw_seq ?_
  refine aw_region ?_
  refine rr_pure (rp rfl) rfl rfl rfl ?_
  first
    | refine rr_read (r_loadL rfl rfl rfl rfl rfl) rfl rfl rfl ?_
    | refine rr_read (r_loadA rfl rfl rfl (Rd.at (by assumption) (by assumption)) rfl) rfl rfl rfl ?_
  refine rr_pure (rp rfl) rfl rfl rfl ?_
  refine rr_read (r_callF rfl rfl rfl (c67 _ hr hn hl)) rfl rfl rfl  ?_
  refine rr_pure (rp rfl) rfl rfl rfl ?_
  refine rr_nil rfl ?_
  refine then_n ?_
  refine aw_seq ?_
  refine aw_seq ?_
  refine aw_region ?_
  refine rr_pure (rp rfl) rfl rfl rfl ?_
  refine rr_pure (rp rfl) rfl rfl rfl ?_
  refine rr_nil rfl ?_
  refine then_n ?_
  refine aw_cond rfl (fun b1 => ?_) (fun b1 => ?_)
  · have b1p := b1; try simp only [decide_eq_true_eq, decide_eq_false_iff_not, Bool.not_eq_true', Bool.not_eq_false', bne_iff_ne, ne_eq, bne_eq_false_iff_eq, beq_iff_eq, beq_eq_false_iff_ne, Int.natCast_inj] at b1p
    refine aw_seq ?_
    refine aw_region ?_
    refine rr_pure (rp rfl) rfl rfl rfl ?_
    refine rr_nil rfl ?_
    refine then_n ?_
    refine aw_ret ?_
    refine then_r ?_
    exact fin_i rfl (by first | (simp_all [szI]; done) | (simp only [szI] at *; split at b1p <;> simp_all))
  · have b1p := b1; try simp only [decide_eq_true_eq, decide_eq_false_iff_not, Bool.not_eq_true', Bool.not_eq_false', bne_iff_ne, ne_eq, bne_eq_false_iff_eq, beq_iff_eq, beq_eq_false_iff_ne, Int.natCast_inj] at b1p
    refine aw_skip ?_
    refine then_n ?_
    refine aw_seq ?_
    refine aw_region ?_
    refine rr_pure (rp rfl) rfl rfl rfl ?_
    refine rr_pure (rp rfl) rfl rfl rfl ?_
    refine rr_nil rfl ?_
    refine then_n ?_
    refine aw_ret ?_
    exact fin_i rfl (by first | (simp_all [szI]; done) | (simp only [szI] at *; split at b1p <;> simp_all))
theorem lI : ∀ x, (eI x).length = 1 := fun _ => rfl
theorem pI : ∀ x, ∀ c ∈ eI x, c.ids = [] := fun x c hc => by simp only [eI, List.mem_singleton] at hc; subst hc; rfl
abbrev bI (xs : List Int) : Option Blk := some ⟨xs.flatMap eI, true, 1⟩
theorem c8 {H : Heap} {b : Nat} (hb : H.length = b) {v : AC} {xs : List Int} (hr : Rd cx H 1 eI v xs) (hn : xs.length ≤ 2 ^ 44) : ACalls cx 8 [.c v] H (.v (.c (.sl (.l b) 0 xs.length xs.length true))) (H ++ [bI xs]) := by
  subst hb
  refine acallsN Try.func8 rfl rfl (fun S hS hw => ?_)
  refine aw_seq ?_
  refine aw_region ?_
  refine rr_pure (rp rfl) rfl rfl rfl ?_
  refine rr_nil rfl ?_
  refine then_n ?_
  refine aw_seq ?_
  refine aw_region ?_
  refine rr_pure (rp rfl) rfl rfl rfl ?_
  first
    | refine rr_pure (rp rfl) rfl rfl rfl ?_
    | refine rr_pure (r_lenR rfl rfl rfl ⟨_, _, hr.app (L := [])⟩) rfl rfl rfl ?_
  refine rr_memL (r_makeR (enc := eI) (z := 0) rfl rfl rfl rfl (by dsimp only; omega) (by omega) rfl rfl rfl) rfl rfl rfl ?_
  refine rr_pure (rp rfl) rfl rfl rfl ?_
  refine rr_nil rfl ?_
  refine then_n ?_
  refine aw_seq ?_
  refine aw_seq ?_
  refine aw_region ?_
  refine rr_pure (rp rfl) rfl rfl rfl ?_
  refine rr_nil rfl ?_
  refine then_n ?_
  refine aw_block ?_
  refine aw_loop (σ := Nat) (fun i => [(0, sC v), (3, sC (.sl (.l (H.length + 0)) 0 xs.length xs.length true)), (4, sI i)]) (fun i => H ++ [bI (xs.take i ++ List.replicate (xs.length - i) 0)]) (fun i => i ≤ xs.length) (fun i => xs.length - i) (0) (by simp) (by repeat (first | exact Sub.nil _ | refine Sub.cons rfl ?_)) (by simp) ?_
  intro i hi
  refine aw_seq ?_
  refine aw_seq ?_
  refine aw_region ?_
  refine rr_pure (rp rfl) rfl rfl rfl ?_
  refine rr_pure (rp rfl) rfl rfl rfl ?_
  first
    | refine rr_pure (rp rfl) rfl rfl rfl ?_
    | refine rr_pure (r_lenR rfl rfl rfl ⟨_, _, hr.app (L := [])⟩) rfl rfl rfl ?_
  refine rr_pure (rp rfl) rfl rfl rfl ?_
  refine rr_nil rfl ?_
  refine then_n ?_
  refine aw_cond rfl (fun b1 => ?_) (fun b1 => ?_)
  · have b1p := b1; try simp only [decide_eq_true_eq, decide_eq_false_iff_not, Bool.not_eq_true', Bool.not_eq_false', bne_iff_ne, ne_eq, bne_eq_false_iff_eq, beq_iff_eq, beq_eq_false_iff_ne, Int.natCast_inj] at b1p
    obtain ⟨x, hx⟩ := at_lt xs (i := i) (by omega)
    refine aw_skip ?_
    refine then_n ?_
    refine aw_seq ?_
    refine aw_block ?_
    refine aw_region ?_
    refine rr_pure (rp rfl) rfl rfl rfl ?_
    refine rr_pure (rp rfl) rfl rfl rfl ?_
    refine rr_pure (rp rfl) rfl rfl rfl ?_
    refine rr_pure (rp rfl) rfl rfl rfl ?_
    refine rr_pure (r_idxR rfl rfl rfl rfl rfl ⟨_, _, hr.app (L := [])⟩ (by omega) (by omega)) rfl rfl rfl ?_
    first
      | refine rr_read (r_loadL rfl rfl rfl rfl rfl) rfl rfl rfl ?_
      | refine rr_read (r_loadA rfl rfl rfl (Rd.at (hr) (by assumption)) rfl) rfl rfl rfl ?_
    refine rr_pure (r_idx rfl rfl rfl rfl rfl (by omega) (by omega)) rfl rfl rfl ?_
    refine rr_eff (r_storeR (z := 1) rfl rfl rfl rfl rfl rfl lI rfl (by simp; omega)) rfl rfl rfl (by simp) ?_
    refine rr_nil rfl ?_
    refine inb_n ?_
    refine then_n ?_
    refine aw_region ?_
    refine rr_pure (rp rfl) rfl rfl rfl ?_
    refine rr_pure (r_addn rfl rfl rfl ⟨by omega, by omega⟩) rfl rfl rfl ?_
    refine rr_pure (rp rfl) rfl rfl rfl ?_
    refine rr_nil rfl ?_
    refine then_n ?_
    exact ⟨i + 1, by omega, by omega, (by repeat (first | exact Sub.nil _ | refine Sub.cons rfl ?_)), (by simp only [← take_set hx]; rfl)⟩
  · have b1p := b1; try simp only [decide_eq_true_eq, decide_eq_false_iff_not, Bool.not_eq_true', Bool.not_eq_false', bne_iff_ne, ne_eq, bne_eq_false_iff_eq, beq_iff_eq, beq_eq_false_iff_ne, Int.natCast_inj] at b1p
    rw [List.take_of_length_le (by omega), Nat.sub_eq_zero_of_le (by omega), List.replicate_zero, List.append_nil]
    refine aw_exit ?_
    refine then_x ?_
    refine then_x ?_
    refine inb_e ?_
    refine then_n ?_
    refine aw_seq ?_
    refine aw_region ?_
    refine rr_pure (rp rfl) rfl rfl rfl ?_
    refine rr_pure (rp rfl) rfl rfl rfl ?_
    refine rr_nil rfl ?_
    refine then_n ?_
    refine aw_ret ?_
    exact fin_mv [0] (resA_tmp rfl resA_nil) (mv_one rfl (flat_plain pI xs)) (by simp [resT, AT.ren, AV.ren, AC.ren, renB_base]) (by simp [Lo, AT.ids, AV.ids, AC.ids])
theorem c28 {H : Heap} {b : Nat} (hb : H.length = b) {w h : Int} {v : AC} {xs : List Int} (hr : Rd cx H 1 eI v xs) (hn : xs.length ≤ 2 ^ 44) : ACalls cx 28 [aF w h v] H (.v (aF w h (.sl (.l b) 0 xs.length xs.length true))) (H ++ [bI xs]) := by
  subst hb
  refine acallsN Try.func28 rfl rfl (fun S hS hw => ?_)
  refine aw_seq ?_
  refine aw_region ?_
  refine rr_memL (r_boxL rfl rfl) rfl rfl rfl ?_
  refine rr_memL (r_allocL rfl rfl) rfl rfl rfl ?_
  refine rr_nil rfl ?_
  refine then_n ?_
  refine aw_seq ?_
  refine aw_region ?_
  refine rr_memL (r_allocL rfl rfl) rfl rfl rfl ?_
  refine rr_nil rfl ?_
  refine then_n ?_
  refine aw_seq ?_
  refine aw_region ?_
  refine rr_pure (rp rfl) rfl rfl rfl ?_
  first
    | refine rr_read (r_loadL rfl rfl rfl rfl rfl) rfl rfl rfl ?_
    | refine rr_read (r_loadA rfl rfl rfl (Rd.at (by assumption) (by assumption)) rfl) rfl rfl rfl ?_
  refine rr_pure (rp rfl) rfl rfl rfl ?_
  refine rr_eff (r_storeL rfl rfl rfl rfl rfl rfl rfl (Nat.le_of_ble_eq_true rfl)) rfl rfl rfl (by simp) ?_
  refine rr_nil rfl ?_
  refine then_n ?_
  refine aw_seq ?_
  refine aw_region ?_
  refine rr_pure (rp rfl) rfl rfl rfl ?_
  first
    | refine rr_read (r_loadL rfl rfl rfl rfl rfl) rfl rfl rfl ?_
    | refine rr_read (r_loadA rfl rfl rfl (Rd.at (by assumption) (by assumption)) rfl) rfl rfl rfl ?_
  refine rr_pure (rp rfl) rfl rfl rfl ?_
  refine rr_eff (r_storeL rfl rfl rfl rfl rfl rfl rfl (Nat.le_of_ble_eq_true rfl)) rfl rfl rfl (by simp) ?_
  refine rr_nil rfl ?_
  refine then_n ?_
  refine aw_seq ?_
  refine aw_region ?_
  refine rr_pure (rp rfl) rfl rfl rfl ?_
  first
    | refine rr_read (r_loadL rfl rfl rfl rfl rfl) rfl rfl rfl ?_
    | refine rr_read (r_loadA rfl rfl rfl (Rd.at (by assumption) (by assumption)) rfl) rfl rfl rfl ?_
  refine rr_memL (r_callF rfl rfl rfl (c8 List.length_append hr.app hn)) rfl rfl rfl  ?_
  refine rr_pure (rp rfl) rfl rfl rfl ?_
  refine rr_eff (r_storeL rfl rfl rfl rfl rfl rfl rfl (Nat.le_of_ble_eq_true rfl)) rfl rfl rfl (by simp) ?_
  refine rr_nil rfl ?_
  refine then_n ?_
  refine aw_seq ?_
  refine aw_region ?_
  first
    | refine rr_read (r_loadL rfl rfl rfl rfl rfl) rfl rfl rfl ?_
    | refine rr_read (r_loadA rfl rfl rfl (Rd.at (by assumption) (by assumption)) rfl) rfl rfl rfl ?_
  refine rr_eff (r_storeL rfl rfl rfl rfl rfl rfl rfl (Nat.le_of_ble_eq_true rfl)) rfl rfl rfl (by simp) ?_
  refine rr_nil rfl ?_
  refine then_n ?_
  refine aw_ret ?_
  exact fin_mv [3] (resA_cell rfl rfl rfl rfl resA_nil) (mv_one rfl (flat_plain pI xs)) (by simp [resT, AT.ren, AV.ren, AC.ren, renB_base]; rfl) (by simp [Lo, AT.ids, AV.ids, AC.ids])
theorem c10 (H : Heap) {v v' : AC} {xs ys : List Int} (hr : Rd cx H 1 eI v xs) (hr' : Rd cx H 1 eI v' ys) (hn : xs.length ≤ 2 ^ 44) (hn' : ys.length ≤ 2 ^ 44) : ACalls cx 10 [.c v, .c v'] H (Vb (decide (xs = ys))) H := by
  refine acalls0 Try.func10 rfl rfl (fun S hS hw => ?_)
  refine aw_seq ?_
  refine aw_region ?_
  refine rr_pure (rp rfl) rfl rfl rfl ?_
  refine rr_nil rfl ?_
  refine then_n ?_
  refine aw_seq ?_
  refine aw_seq ?_
  refine aw_region ?_
  refine rr_pure (rp rfl) rfl rfl rfl ?_
  first
    | refine rr_pure (rp rfl) rfl rfl rfl ?_
    | refine rr_pure (r_lenR rfl rfl rfl ⟨_, _, by first | exact hr.app (L := []) | exact hr'.app (L := [])⟩) rfl rfl rfl ?_
  refine rr_pure (rp rfl) rfl rfl rfl ?_
  first
    | refine rr_pure (rp rfl) rfl rfl rfl ?_
    | refine rr_pure (r_lenR rfl rfl rfl ⟨_, _, by first | exact hr.app (L := []) | exact hr'.app (L := [])⟩) rfl rfl rfl ?_
  refine rr_pure (rp rfl) rfl rfl rfl ?_
  refine rr_nil rfl ?_
  refine then_n ?_
  refine aw_cond rfl (fun b1 => ?_) (fun b1 => ?_)
  · have b1p := b1; try simp only [decide_eq_true_eq, decide_eq_false_iff_not, Bool.not_eq_true', Bool.not_eq_false', bne_iff_ne, ne_eq, bne_eq_false_iff_eq, beq_iff_eq, beq_eq_false_iff_ne, Int.natCast_inj] at b1p
    refine aw_seq ?_
    refine aw_region ?_
    refine rr_pure (rp rfl) rfl rfl rfl ?_
    refine rr_nil rfl ?_
    refine then_n ?_
    refine aw_ret ?_
    refine then_r ?_
    exact fin_b rfl (by rw [eq_comm, decide_eq_false_iff_not]; intro e; rw [e] at b1p; exact b1p rfl)
  · have b1p := b1; try simp only [decide_eq_true_eq, decide_eq_false_iff_not, Bool.not_eq_true', Bool.not_eq_false', bne_iff_ne, ne_eq, bne_eq_false_iff_eq, beq_iff_eq, beq_eq_false_iff_ne, Int.natCast_inj] at b1p
    refine aw_skip ?_
    refine then_n ?_
    refine aw_seq ?_
    refine aw_seq ?_
    refine aw_region ?_
    refine rr_pure (rp rfl) rfl rfl rfl ?_
    refine rr_nil rfl ?_
    refine then_n ?_
    refine aw_block ?_
    refine aw_loop (σ := Nat) (fun i => [(0, sC v), (1, sC v'), (5, sI i)]) (fun _ => _) (fun i => i ≤ xs.length ∧ xs.take i = ys.take i) (fun i => xs.length - i) (0) (by simp) (by repeat (first | exact Sub.nil _ | refine Sub.cons rfl ?_)) rfl ?_
    intro i hi
    refine aw_seq ?_
    refine aw_seq ?_
    refine aw_region ?_
    refine rr_pure (rp rfl) rfl rfl rfl ?_
    refine rr_pure (rp rfl) rfl rfl rfl ?_
    first
      | refine rr_pure (rp rfl) rfl rfl rfl ?_
      | refine rr_pure (r_lenR rfl rfl rfl ⟨_, _, by first | exact hr.app (L := []) | exact hr'.app (L := [])⟩) rfl rfl rfl ?_
    refine rr_pure (rp rfl) rfl rfl rfl ?_
    refine rr_nil rfl ?_
    refine then_n ?_
    refine aw_cond rfl (fun b2 => ?_) (fun b2 => ?_)
    · have b2p := b2; try simp only [decide_eq_true_eq, decide_eq_false_iff_not, Bool.not_eq_true', Bool.not_eq_false', bne_iff_ne, ne_eq, bne_eq_false_iff_eq, beq_iff_eq, beq_eq_false_iff_ne, Int.natCast_inj] at b2p
      obtain ⟨x, hx⟩ := at_lt xs (i := i) (by omega); obtain ⟨y, hy⟩ := at_lt ys (i := i) (by omega)
      refine aw_skip ?_
      refine then_n ?_
      refine aw_seq ?_
      refine aw_block ?_
      refine aw_seq ?_
      refine aw_region_draw ?_
      refine rr_pure (rp rfl) rfl rfl rfl ?_
      refine rr_pure (rp rfl) rfl rfl rfl ?_
      refine rr_pure (r_idxR rfl rfl rfl rfl rfl ⟨_, _, by first | exact hr.app (L := []) | exact hr'.app (L := [])⟩ (by omega) (by omega)) rfl rfl rfl ?_
      first
        | refine rr_read (r_loadL rfl rfl rfl rfl rfl) rfl rfl rfl ?_
        | refine rr_read (r_loadA rfl rfl rfl (Rd.at (by first | exact hr | exact hr') (by assumption)) rfl) rfl rfl rfl ?_
      refine rr_pure (rp rfl) rfl rfl rfl ?_
      refine rr_pure (rp rfl) rfl rfl rfl ?_
      refine rr_pure (r_idxR rfl rfl rfl rfl rfl ⟨_, _, by first | exact hr.app (L := []) | exact hr'.app (L := [])⟩ (by omega) (by omega)) rfl rfl rfl ?_
      first
        | refine rr_read (r_loadL rfl rfl rfl rfl rfl) rfl rfl rfl ?_
        | refine rr_read (r_loadA rfl rfl rfl (Rd.at (by first | exact hr | exact hr') (by assumption)) rfl) rfl rfl rfl ?_
      refine rr_pure (rp rfl) rfl rfl rfl ?_
      refine rr_nil (by kernel_rfl) ?_
      refine then_n ?_
      refine aw_cond rfl (fun b3 => ?_) (fun b3 => ?_)
      · have b3p := b3; try simp only [decide_eq_true_eq, decide_eq_false_iff_not, Bool.not_eq_true', Bool.not_eq_false', bne_iff_ne, ne_eq, bne_eq_false_iff_eq, beq_iff_eq, beq_eq_false_iff_ne, Int.natCast_inj] at b3p
        refine aw_seq ?_
        refine aw_region ?_
        refine rr_pure (rp rfl) rfl rfl rfl ?_
        refine rr_nil rfl ?_
        refine then_n ?_
        refine aw_ret ?_
        refine inb_r ?_
        refine then_r ?_
        refine then_r ?_
        refine inb_r ?_
        refine then_r ?_
        exact fin_b rfl (by rw [eq_comm, decide_eq_false_iff_not]; intro e; rw [e, hy] at hx; cases hx; exact b3p rfl)
      · have b3p := b3; try simp only [decide_eq_true_eq, decide_eq_false_iff_not, Bool.not_eq_true', Bool.not_eq_false', bne_iff_ne, ne_eq, bne_eq_false_iff_eq, beq_iff_eq, beq_eq_false_iff_ne, Int.natCast_inj] at b3p
        refine aw_skip ?_
        refine inb_n ?_
        refine then_n ?_
        refine aw_region ?_
        refine rr_pure (rp rfl) rfl rfl rfl ?_
        refine rr_pure (r_addn rfl rfl rfl ⟨by omega, by omega⟩) rfl rfl rfl ?_
        refine rr_pure (rp rfl) rfl rfl rfl ?_
        refine rr_nil rfl ?_
        refine then_n ?_
        exact ⟨i + 1, ⟨by omega, by rw [List.take_add_one, List.take_add_one, hi.2, hx, hy, b3p]⟩, by omega, (by repeat (first | exact Sub.nil _ | refine Sub.cons rfl ?_)), rfl⟩
    · have b2p := b2; try simp only [decide_eq_true_eq, decide_eq_false_iff_not, Bool.not_eq_true', Bool.not_eq_false', bne_iff_ne, ne_eq, bne_eq_false_iff_eq, beq_iff_eq, beq_eq_false_iff_ne, Int.natCast_inj] at b2p
      refine aw_exit ?_
      refine then_x ?_
      refine then_x ?_
      refine inb_e ?_
      refine then_n ?_
      refine aw_seq ?_
      refine aw_region ?_
      refine rr_pure (rp rfl) rfl rfl rfl ?_
      refine rr_nil rfl ?_
      refine then_n ?_
      refine aw_ret ?_
      exact fin_b rfl (by rw [eq_comm, decide_eq_true_eq, ← List.take_of_length_le (l := xs) (i := i) (by omega), hi.2, List.take_of_length_le (by omega)])
theorem c30 (H : Heap) {w h w' h' : Int} {v v' : AC} {xs ys : List Int} (hr : Rd cx H 1 eI v xs) (hr' : Rd cx H 1 eI v' ys) (hn : xs.length ≤ 2 ^ 44) (hn' : ys.length ≤ 2 ^ 44) : ACalls cx 30 [aF w h v, aF w' h' v'] H (Vb (decide (w = w' ∧ h = h' ∧ xs = ys))) H := by
  refine acalls0 Try.func30 rfl rfl (fun S hS hw => ?_)
  refine aw_seq ?_
  refine aw_region ?_
  refine rr_memL (r_boxL rfl rfl) rfl rfl rfl ?_
  refine rr_memL (r_boxL rfl rfl) rfl rfl rfl ?_
  refine rr_pure (rp rfl) rfl rfl rfl ?_
  refine rr_nil rfl ?_
  refine then_n ?_
  refine aw_seq ?_
  refine aw_seq ?_
  refine aw_region ?_
  refine rr_pure (rp rfl) rfl rfl rfl ?_
  first
    | refine rr_read (r_loadL rfl rfl rfl rfl rfl) rfl rfl rfl ?_
    | refine rr_read (r_loadA rfl rfl rfl (Rd.at (by assumption) (by assumption)) rfl) rfl rfl rfl ?_
  refine rr_pure (rp rfl) rfl rfl rfl ?_
  first
    | refine rr_read (r_loadL rfl rfl rfl rfl rfl) rfl rfl rfl ?_
    | refine rr_read (r_loadA rfl rfl rfl (Rd.at (by assumption) (by assumption)) rfl) rfl rfl rfl ?_
  refine rr_pure (rp rfl) rfl rfl rfl ?_
  refine rr_nil rfl ?_
  refine then_n ?_
  refine aw_cond rfl (fun b1 => ?_) (fun b1 => ?_)
  · have b1p := b1; try simp only [decide_eq_true_eq, decide_eq_false_iff_not, Bool.not_eq_true', Bool.not_eq_false', bne_iff_ne, ne_eq, bne_eq_false_iff_eq, beq_iff_eq, beq_eq_false_iff_ne, Int.natCast_inj] at b1p
    refine aw_seq ?_
    refine aw_region ?_
    refine rr_pure (rp rfl) rfl rfl rfl ?_
    refine rr_nil rfl ?_
    refine then_n ?_
    refine aw_ret ?_
    refine then_r ?_
    exact fin_b rfl (by simp_all)
  · have b1p := b1; try simp only [decide_eq_true_eq, decide_eq_false_iff_not, Bool.not_eq_true', Bool.not_eq_false', bne_iff_ne, ne_eq, bne_eq_false_iff_eq, beq_iff_eq, beq_eq_false_iff_ne, Int.natCast_inj] at b1p
    refine aw_skip ?_
    refine then_n ?_
    refine aw_seq ?_
    refine aw_seq ?_
    refine aw_region ?_
    refine rr_pure (rp rfl) rfl rfl rfl ?_
    first
      | refine rr_read (r_loadL rfl rfl rfl rfl rfl) rfl rfl rfl ?_
      | refine rr_read (r_loadA rfl rfl rfl (Rd.at (by assumption) (by assumption)) rfl) rfl rfl rfl ?_
    refine rr_pure (rp rfl) rfl rfl rfl ?_
    first
      | refine rr_read (r_loadL rfl rfl rfl rfl rfl) rfl rfl rfl ?_
      | refine rr_read (r_loadA rfl rfl rfl (Rd.at (by assumption) (by assumption)) rfl) rfl rfl rfl ?_
    refine rr_pure (rp rfl) rfl rfl rfl ?_
    refine rr_nil rfl ?_
    refine then_n ?_
    refine aw_cond rfl (fun b2 => ?_) (fun b2 => ?_)
    · have b2p := b2; try simp only [decide_eq_true_eq, decide_eq_false_iff_not, Bool.not_eq_true', Bool.not_eq_false', bne_iff_ne, ne_eq, bne_eq_false_iff_eq, beq_iff_eq, beq_eq_false_iff_ne, Int.natCast_inj] at b2p
      refine aw_seq ?_
      refine aw_region ?_
      refine rr_pure (rp rfl) rfl rfl rfl ?_
      refine rr_nil rfl ?_
      refine then_n ?_
      refine aw_ret ?_
      refine then_r ?_
      exact fin_b rfl (by simp_all)
    · have b2p := b2; try simp only [decide_eq_true_eq, decide_eq_false_iff_not, Bool.not_eq_true', Bool.not_eq_false', bne_iff_ne, ne_eq, bne_eq_false_iff_eq, beq_iff_eq, beq_eq_false_iff_ne, Int.natCast_inj] at b2p
      refine aw_skip ?_
      refine then_n ?_
      refine aw_seq ?_
      refine aw_seq ?_
      refine aw_region ?_
      refine rr_pure (rp rfl) rfl rfl rfl ?_
      first
        | refine rr_read (r_loadL rfl rfl rfl rfl rfl) rfl rfl rfl ?_
        | refine rr_read (r_loadA rfl rfl rfl (Rd.at (by assumption) (by assumption)) rfl) rfl rfl rfl ?_
      refine rr_pure (rp rfl) rfl rfl rfl ?_
      first
        | refine rr_read (r_loadL rfl rfl rfl rfl rfl) rfl rfl rfl ?_
        | refine rr_read (r_loadA rfl rfl rfl (Rd.at (by assumption) (by assumption)) rfl) rfl rfl rfl ?_
      refine rr_read (r_callF rfl rfl rfl (c10 _ hr.app hr'.app hn hn')) rfl rfl rfl  ?_
      refine rr_pure (rp rfl) rfl rfl rfl ?_
      refine rr_nil rfl ?_
      refine then_n ?_
      refine aw_cond rfl (fun b3 => ?_) (fun b3 => ?_)
      · have b3p := b3; try simp only [decide_eq_true_eq, decide_eq_false_iff_not, Bool.not_eq_true', Bool.not_eq_false', bne_iff_ne, ne_eq, bne_eq_false_iff_eq, beq_iff_eq, beq_eq_false_iff_ne, Int.natCast_inj] at b3p
        refine aw_seq ?_
        refine aw_region ?_
        refine rr_pure (rp rfl) rfl rfl rfl ?_
        refine rr_nil rfl ?_
        refine then_n ?_
        refine aw_ret ?_
        refine then_r ?_
        exact fin_b rfl (by simp_all)
      · have b3p := b3; try simp only [decide_eq_true_eq, decide_eq_false_iff_not, Bool.not_eq_true', Bool.not_eq_false', bne_iff_ne, ne_eq, bne_eq_false_iff_eq, beq_iff_eq, beq_eq_false_iff_ne, Int.natCast_inj] at b3p
        refine aw_skip ?_
        refine then_n ?_
        refine aw_seq ?_
        refine aw_region ?_
        refine rr_pure (rp rfl) rfl rfl rfl ?_
        refine rr_nil rfl ?_
        refine then_n ?_
        refine aw_ret ?_
        exact fin_b rfl (by simp_all)
def okField (w h : Int) (xs : List Int) : Bool := shape w h && (xs.length : Int) == w * h && xs.all okVal
theorem c96 (H : Heap) {w h : Int} {v : AC} {xs : List Int} (hr : Rd cx H 1 eI v xs) (hn : xs.length ≤ 2 ^ 44) : ACalls cx 96 [aF w h v] H (Vb (okField w h xs)) H := by
  refine acalls0 Try.func96 rfl rfl (fun S hS hw => ?_)
  refine aw_seq ?_
  refine aw_region ?_
  refine rr_memL (r_boxL rfl rfl) rfl rfl rfl ?_
  refine rr_pure (rp rfl) rfl rfl rfl ?_
  refine rr_nil rfl ?_
  refine then_n ?_
  refine aw_seq ?_
  refine aw_seq ?_
  refine aw_region ?_
  refine rr_pure (rp rfl) rfl rfl rfl ?_
  first
    | refine rr_read (r_loadL rfl rfl rfl rfl rfl) rfl rfl rfl ?_
    | refine rr_read (r_loadA rfl rfl rfl (Rd.at hr (by assumption)) rfl) rfl rfl rfl ?_
  refine rr_pure (rp rfl) rfl rfl rfl ?_
  first
    | refine rr_read (r_loadL rfl rfl rfl rfl rfl) rfl rfl rfl ?_
    | refine rr_read (r_loadA rfl rfl rfl (Rd.at hr (by assumption)) rfl) rfl rfl rfl ?_
  refine rr_read (r_callF rfl rfl rfl (c106 _)) rfl rfl rfl  ?_
  refine rr_pure (rp rfl) rfl rfl rfl ?_
  refine rr_pure (rp rfl) rfl rfl rfl ?_
  refine rr_split rfl (fun g1 => ?_) (fun g1 => ?_)
  · have g1p := g1; try simp only [decide_eq_true_eq, decide_eq_false_iff_not, Bool.not_eq_true', Bool.not_eq_false', bne_iff_ne, ne_eq, bne_eq_false_iff_eq, beq_iff_eq, beq_eq_false_iff_ne, Int.natCast_inj] at g1p
    refine rr_skip rfl rfl g1 ?_
    refine rr_skip rfl rfl g1 ?_
    refine rr_skip rfl rfl g1 ?_
    refine rr_skip rfl rfl g1 ?_
    refine rr_skip rfl rfl g1 ?_
    refine rr_skip rfl rfl g1 ?_
    refine rr_skip rfl rfl g1 ?_
    refine rr_skip rfl rfl g1 ?_
    refine rr_skip rfl rfl g1 ?_
    refine rr_pure (r_pick_t rfl rfl g1 rfl) rfl rfl rfl ?_
    refine rr_nil rfl ?_
    refine then_n ?_
    refine aw_cond rfl (fun _ => ?_) (fun b2 => by first | cases b2 | (rw [b2] at b2; cases b2) | simp_all)
    refine aw_seq ?_
    refine aw_region ?_
    refine rr_pure (rp rfl) rfl rfl rfl ?_
    refine rr_nil rfl ?_
    refine then_n ?_
    refine aw_ret ?_
    refine then_r ?_
    exact fin_b rfl (by simp_all [okField])
  · have g1p := g1; try simp only [decide_eq_true_eq, decide_eq_false_iff_not, Bool.not_eq_true', Bool.not_eq_false', bne_iff_ne, ne_eq, bne_eq_false_iff_eq, beq_iff_eq, beq_eq_false_iff_ne, Int.natCast_inj] at g1p
    refine rr_pure (rp rfl) rfl rfl g1 ?_
    first
      | refine rr_read (r_loadL rfl rfl rfl rfl rfl) rfl rfl g1 ?_
      | refine rr_read (r_loadA rfl rfl rfl (Rd.at hr (by assumption)) rfl) rfl rfl g1 ?_
    first
      | refine rr_pure (rp rfl) rfl rfl g1 ?_
      | refine rr_pure (r_lenR rfl rfl rfl ⟨_, _, hr⟩) rfl rfl g1 ?_
    refine rr_pure (rp rfl) rfl rfl g1 ?_
    first
      | refine rr_read (r_loadL rfl rfl rfl rfl rfl) rfl rfl g1 ?_
      | refine rr_read (r_loadA rfl rfl rfl (Rd.at hr (by assumption)) rfl) rfl rfl g1 ?_
    refine rr_pure (rp rfl) rfl rfl g1 ?_
    first
      | refine rr_read (r_loadL rfl rfl rfl rfl rfl) rfl rfl g1 ?_
      | refine rr_read (r_loadA rfl rfl rfl (Rd.at hr (by assumption)) rfl) rfl rfl g1 ?_
    refine rr_pure (r_muln rfl rfl rfl (by have := shape_b (by simpa using g1); constructor <;> omega)) rfl rfl g1 ?_
    refine rr_pure (rp rfl) rfl rfl g1 ?_
    refine rr_pure (r_pick_f rfl rfl g1 rfl) rfl rfl rfl ?_
    refine rr_nil rfl ?_
    refine then_n ?_
    refine aw_cond rfl (fun b3 => ?_) (fun b3 => ?_)
    · have b3p := b3; try simp only [decide_eq_true_eq, decide_eq_false_iff_not, Bool.not_eq_true', Bool.not_eq_false', bne_iff_ne, ne_eq, bne_eq_false_iff_eq, beq_iff_eq, beq_eq_false_iff_ne, Int.natCast_inj] at b3p
      refine aw_seq ?_
      refine aw_region ?_
      refine rr_pure (rp rfl) rfl rfl rfl ?_
      refine rr_nil rfl ?_
      refine then_n ?_
      refine aw_ret ?_
      refine then_r ?_
      exact fin_b rfl (by simp_all [okField])
    · have b3p := b3; try simp only [decide_eq_true_eq, decide_eq_false_iff_not, Bool.not_eq_true', Bool.not_eq_false', bne_iff_ne, ne_eq, bne_eq_false_iff_eq, beq_iff_eq, beq_eq_false_iff_ne, Int.natCast_inj] at b3p
      refine aw_skip ?_
      refine then_n ?_
      refine aw_seq ?_
      refine aw_seq ?_
      refine aw_region ?_
      refine rr_pure (rp rfl) rfl rfl rfl ?_
      refine rr_nil rfl ?_
      refine then_n ?_
      refine aw_block ?_
      refine aw_loop (σ := Nat) (fun i => [(1, pL (H.length + 0)), (3, sI i)]) (fun _ => _) (fun i => i ≤ xs.length ∧ (xs.take i).all okVal = true) (fun i => xs.length - i) (0) (by simp) (by repeat (first | exact Sub.nil _ | refine Sub.cons rfl ?_)) rfl ?_
      intro i hi
      refine aw_seq ?_
      refine aw_seq ?_
      refine aw_region ?_
      refine rr_pure (rp rfl) rfl rfl rfl ?_
      refine rr_pure (rp rfl) rfl rfl rfl ?_
      first
        | refine rr_read (r_loadL rfl rfl rfl rfl rfl) rfl rfl rfl ?_
        | refine rr_read (r_loadA rfl rfl rfl (Rd.at hr (by assumption)) rfl) rfl rfl rfl ?_
      first
        | refine rr_pure (rp rfl) rfl rfl rfl ?_
        | refine rr_pure (r_lenR rfl rfl rfl ⟨_, _, hr⟩) rfl rfl rfl ?_
      refine rr_pure (rp rfl) rfl rfl rfl ?_
      refine rr_nil rfl ?_
      refine then_n ?_
      refine aw_cond rfl (fun b4 => ?_) (fun b4 => ?_)
      · have b4p := b4; try simp only [decide_eq_true_eq, decide_eq_false_iff_not, Bool.not_eq_true', Bool.not_eq_false', bne_iff_ne, ne_eq, bne_eq_false_iff_eq, beq_iff_eq, beq_eq_false_iff_ne, Int.natCast_inj] at b4p
        obtain ⟨x, hx⟩ := at_lt xs (i := i) (by omega)
        refine aw_skip ?_
        refine then_n ?_
        refine aw_seq ?_
        refine aw_block ?_
        refine aw_seq ?_
        refine aw_region ?_
        refine rr_pure (rp rfl) rfl rfl rfl ?_
        first
          | refine rr_read (r_loadL rfl rfl rfl rfl rfl) rfl rfl rfl ?_
          | refine rr_read (r_loadA rfl rfl rfl (Rd.at hr (by assumption)) rfl) rfl rfl rfl ?_
        refine rr_pure (rp rfl) rfl rfl rfl ?_
        refine rr_pure (r_idxR rfl rfl rfl rfl rfl ⟨_, _, hr⟩ (by omega) (by omega)) rfl rfl rfl ?_
        first
          | refine rr_read (r_loadL rfl rfl rfl rfl rfl) rfl rfl rfl ?_
          | refine rr_read (r_loadA rfl rfl rfl (Rd.at hr (by assumption)) rfl) rfl rfl rfl ?_
        refine rr_read (r_callF rfl rfl rfl (c78 _)) rfl rfl rfl  ?_
        refine rr_pure (rp rfl) rfl rfl rfl ?_
        refine rr_nil rfl ?_
        refine then_n ?_
        refine aw_cond rfl (fun b5 => ?_) (fun b5 => ?_)
        · have b5p := b5; try simp only [decide_eq_true_eq, decide_eq_false_iff_not, Bool.not_eq_true', Bool.not_eq_false', bne_iff_ne, ne_eq, bne_eq_false_iff_eq, beq_iff_eq, beq_eq_false_iff_ne, Int.natCast_inj] at b5p
          refine aw_seq ?_
          refine aw_region ?_
          refine rr_pure (rp rfl) rfl rfl rfl ?_
          refine rr_nil rfl ?_
          refine then_n ?_
          refine aw_ret ?_
          refine inb_r ?_
          refine then_r ?_
          refine then_r ?_
          refine inb_r ?_
          refine then_r ?_
          exact fin_b rfl (by have h := all_not hx (p := okVal) (by simpa using b5p); simp_all [okField])
        · have b5p := b5; try simp only [decide_eq_true_eq, decide_eq_false_iff_not, Bool.not_eq_true', Bool.not_eq_false', bne_iff_ne, ne_eq, bne_eq_false_iff_eq, beq_iff_eq, beq_eq_false_iff_ne, Int.natCast_inj] at b5p
          refine aw_skip ?_
          refine inb_n ?_
          refine then_n ?_
          refine aw_region ?_
          refine rr_pure (rp rfl) rfl rfl rfl ?_
          refine rr_pure (r_addn rfl rfl rfl ⟨by omega, by omega⟩) rfl rfl rfl ?_
          refine rr_pure (rp rfl) rfl rfl rfl ?_
          refine rr_nil rfl ?_
          refine then_n ?_
          exact ⟨i + 1, ⟨by omega, all_take hi.2 hx (by simpa using b5p)⟩, by omega, (by repeat (first | exact Sub.nil _ | refine Sub.cons rfl ?_)), rfl⟩
      · have b4p := b4; try simp only [decide_eq_true_eq, decide_eq_false_iff_not, Bool.not_eq_true', Bool.not_eq_false', bne_iff_ne, ne_eq, bne_eq_false_iff_eq, beq_iff_eq, beq_eq_false_iff_ne, Int.natCast_inj] at b4p
        rw [List.take_of_length_le (by omega)] at hi
        refine aw_exit ?_
        refine then_x ?_
        refine then_x ?_
        refine inb_e ?_
        refine then_n ?_
        refine aw_seq ?_
        refine aw_region ?_
        refine rr_pure (rp rfl) rfl rfl rfl ?_
        refine rr_nil rfl ?_
        refine then_n ?_
        refine aw_ret ?_
        exact fin_b rfl (by simp_all [okField])
/-- Rising numbers between two. -/
def riseP (lo up : Int) (xs : List Int) (i : Nat) : Bool := within (xs.getD i 0) lo up && (i == 0 || decide (xs.getD (i - 1) 0 < xs.getD i 0))
def rise (lo up : Int) (xs : List Int) : Bool := (List.range xs.length).all (riseP lo up xs)
theorem range_step {p : Nat → Bool} {i : Nat} (h : (List.range i).all p = true) (hp : p i = true) : (List.range (i + 1)).all p = true := by
  rw [List.range_succ]; simp [h, hp]
theorem range_not {p : Nat → Bool} {i n : Nat} (h : i < n) (hp : p i = false) : (List.range n).all p = false := by
  rw [List.all_eq_false]; exact ⟨i, List.mem_range.2 h, by simp [hp]⟩
theorem getD_at {α : Type} {xs : List α} {i : Nat} {x z : α} (h : xs[i]? = some x) : xs.getD i z = x := by
  rw [List.getD_eq_getElem?_getD, h]; rfl
theorem at_pred {xs : List Int} {i : Nat} (h0 : 0 < i) (h : i < xs.length) : xs[((i : Int) - 1).toNat]? = some (xs.getD (i - 1) 0) := by
  rw [show ((i : Int) - 1).toNat = i - 1 by omega, List.getD_eq_getElem?_getD, List.getElem?_eq_getElem (by omega)]; rfl
theorem rise_t {xs : List Int} {lo up x : Int} {i : Nat} (hg : xs.getD i 0 = x) (hw : within x lo up = true) (h : i = 0 ∨ xs.getD (i - 1) 0 < x) : riseP lo up xs i = true := by
  unfold riseP
  rw [hg, hw]
  rcases h with h | h
  · subst h; rfl
  · rw [decide_eq_true h]; simp
theorem rise_f1 {xs : List Int} {lo up x : Int} {i : Nat} (hg : xs.getD i 0 = x) (hw : within x lo up = false) : riseP lo up xs i = false := by
  unfold riseP; rw [hg, hw]; rfl
theorem rise_f2 {xs : List Int} {lo up x : Int} {i : Nat} (hg : xs.getD i 0 = x) (h0 : 0 < i) (h : x ≤ xs.getD (i - 1) 0) : riseP lo up xs i = false := by
  unfold riseP
  rw [hg, decide_eq_false (by omega : ¬ xs.getD (i - 1) 0 < x), beq_eq_false_iff_ne.2 (by omega : i ≠ 0)]; simp
theorem c107 (H : Heap) {v : AC} {xs : List Int} {lo up : Int} (hr : Rd cx H 1 eI v xs) (hn : xs.length ≤ 2 ^ 44) : ACalls cx 107 [.c v, aI lo, aI up] H (Vb (rise lo up xs)) H := by
  refine acalls0 Try.func107 rfl rfl (fun S hS hw => ?_)
  refine aw_seq ?_
  refine aw_region ?_
  refine rr_pure (rp rfl) rfl rfl rfl ?_
  refine rr_nil rfl ?_
  refine then_n ?_
  refine aw_seq ?_
  refine aw_seq ?_
  refine aw_region ?_
  refine rr_pure (rp rfl) rfl rfl rfl ?_
  refine rr_nil rfl ?_
  refine then_n ?_
  refine aw_block ?_
  refine aw_loop (σ := Nat) (fun i => [(0, sC v), (1, sI lo), (2, sI up), (7, sI i)]) (fun _ => _) (fun i => i ≤ xs.length ∧ (List.range i).all (riseP lo up xs) = true) (fun i => xs.length - i) (0) (by simp) (by repeat (first | exact Sub.nil _ | refine Sub.cons rfl ?_)) rfl ?_
  intro i hi
  refine aw_seq ?_
  refine aw_seq ?_
  refine aw_region ?_
  refine rr_pure (rp rfl) rfl rfl rfl ?_
  refine rr_pure (rp rfl) rfl rfl rfl ?_
  first
    | refine rr_pure (rp rfl) rfl rfl rfl ?_
    | refine rr_pure (r_lenR rfl rfl rfl ⟨_, _, hr⟩) rfl rfl rfl ?_
  refine rr_pure (rp rfl) rfl rfl rfl ?_
  refine rr_nil rfl ?_
  refine then_n ?_
  refine aw_cond rfl (fun b1 => ?_) (fun b1 => ?_)
  · have b1p := b1; try simp only [decide_eq_true_eq, decide_eq_false_iff_not, Bool.not_eq_true', Bool.not_eq_false', bne_iff_ne, ne_eq, bne_eq_false_iff_eq, beq_iff_eq, beq_eq_false_iff_ne, Int.natCast_inj] at b1p
    obtain ⟨x, hx⟩ := at_lt xs (i := i) (by omega); have hgx := getD_at (z := 0) hx
    refine aw_skip ?_
    refine then_n ?_
    refine aw_seq ?_
    refine aw_block ?_
    refine aw_seq ?_
    refine aw_region_draw ?_
    refine rr_pure (rp rfl) rfl rfl rfl ?_
    refine rr_pure (rp rfl) rfl rfl rfl ?_
    refine rr_pure (r_idxR rfl rfl rfl rfl rfl ⟨_, _, hr⟩ (by omega) (by omega)) rfl rfl rfl ?_
    first
      | refine rr_read (r_loadL rfl rfl rfl rfl rfl) rfl rfl rfl ?_
      | refine rr_read (r_loadA rfl rfl rfl (Rd.at hr (by assumption)) rfl) rfl rfl rfl ?_
    refine rr_pure (rp rfl) rfl rfl rfl ?_
    refine rr_pure (rp rfl) rfl rfl rfl ?_
    refine rr_read (r_callF rfl rfl rfl (c82 _)) rfl rfl rfl  ?_
    refine rr_pure (rp rfl) rfl rfl rfl ?_
    refine rr_pure (rp rfl) rfl rfl rfl ?_
    refine rr_split rfl (fun g2 => ?_) (fun g2 => ?_)
    · have g2p := g2; try simp only [decide_eq_true_eq, decide_eq_false_iff_not, Bool.not_eq_true', Bool.not_eq_false', bne_iff_ne, ne_eq, bne_eq_false_iff_eq, beq_iff_eq, beq_eq_false_iff_ne, Int.natCast_inj] at g2p
      refine rr_skip rfl rfl g2 ?_
      refine rr_skip rfl rfl g2 ?_
      refine rr_skip rfl rfl g2 ?_
      refine rr_skip rfl rfl rfl ?_
      refine rr_skip rfl rfl rfl ?_
      refine rr_skip rfl rfl rfl ?_
      refine rr_skip rfl rfl rfl ?_
      refine rr_skip rfl rfl rfl ?_
      refine rr_skip rfl rfl rfl ?_
      refine rr_skip rfl rfl rfl ?_
      refine rr_skip rfl rfl rfl ?_
      refine rr_skip rfl rfl rfl ?_
      refine rr_skip rfl rfl rfl ?_
      refine rr_skip rfl rfl g2 ?_
      refine rr_pure (r_pick_t rfl rfl g2 rfl) rfl rfl rfl ?_
      refine rr_nil (by kernel_rfl) ?_
      refine then_n ?_
      refine aw_cond rfl (fun _ => ?_) (fun b3 => by first | cases b3 | (rw [b3] at b3; cases b3) | simp_all)
      refine aw_seq ?_
      refine aw_region ?_
      refine rr_pure (rp rfl) rfl rfl rfl ?_
      refine rr_nil rfl ?_
      refine then_n ?_
      refine aw_ret ?_
      refine inb_r ?_
      refine then_r ?_
      refine then_r ?_
      refine inb_r ?_
      refine then_r ?_
      exact fin_b rfl (range_not (i := i) (by omega) (rise_f1 hgx g2p)).symm
    · have g2p := g2; try simp only [decide_eq_true_eq, decide_eq_false_iff_not, Bool.not_eq_true', Bool.not_eq_false', bne_iff_ne, ne_eq, bne_eq_false_iff_eq, beq_iff_eq, beq_eq_false_iff_ne, Int.natCast_inj] at g2p
      refine rr_pure (rp rfl) rfl rfl g2 ?_
      refine rr_pure (rp rfl) rfl rfl g2 ?_
      refine rr_pure (rp rfl) rfl rfl g2 ?_
      refine rr_split rfl (fun g4 => ?_) (fun g4 => ?_)
      · have g4p := g4; try simp only [decide_eq_true_eq, decide_eq_false_iff_not, Bool.not_eq_true', Bool.not_eq_false', bne_iff_ne, ne_eq, bne_eq_false_iff_eq, beq_iff_eq, beq_eq_false_iff_ne, Int.natCast_inj] at g4p
        have hy := at_pred (xs := xs) (i := i) (by omega) (by omega)
        refine rr_pure (rp rfl) rfl rfl g4 ?_
        refine rr_pure (rp rfl) rfl rfl g4 ?_
        refine rr_pure (r_subn rfl rfl rfl ⟨by omega, by omega⟩) rfl rfl g4 ?_
        refine rr_pure (r_idxR rfl rfl rfl rfl rfl ⟨_, _, hr⟩ (by omega) (by omega)) rfl rfl g4 ?_
        first
          | refine rr_read (r_loadL rfl rfl rfl rfl rfl) rfl rfl g4 ?_
          | refine rr_read (r_loadA rfl rfl rfl (Rd.at hr (by assumption)) rfl) rfl rfl g4 ?_
        refine rr_pure (rp rfl) rfl rfl g4 ?_
        refine rr_pure (rp rfl) rfl rfl g4 ?_
        refine rr_pure (r_idxR rfl rfl rfl rfl rfl ⟨_, _, hr⟩ (by omega) (by omega)) rfl rfl g4 ?_
        first
          | refine rr_read (r_loadL rfl rfl rfl rfl rfl) rfl rfl g4 ?_
          | refine rr_read (r_loadA rfl rfl rfl (Rd.at hr (by assumption)) rfl) rfl rfl g4 ?_
        refine rr_pure (rp rfl) rfl rfl g4 ?_
        refine rr_pure (r_pick_t rfl rfl g4 rfl) rfl rfl g2 ?_
        refine rr_pure (r_pick_f rfl rfl g2 rfl) rfl rfl rfl ?_
        refine rr_nil (by kernel_rfl) ?_
        refine then_n ?_
        refine aw_cond rfl (fun b5 => ?_) (fun b5 => ?_)
        · have b5p := b5; try simp only [decide_eq_true_eq, decide_eq_false_iff_not, Bool.not_eq_true', Bool.not_eq_false', bne_iff_ne, ne_eq, bne_eq_false_iff_eq, beq_iff_eq, beq_eq_false_iff_ne, Int.natCast_inj] at b5p
          refine aw_seq ?_
          refine aw_region ?_
          refine rr_pure (rp rfl) rfl rfl rfl ?_
          refine rr_nil rfl ?_
          refine then_n ?_
          refine aw_ret ?_
          refine inb_r ?_
          refine then_r ?_
          refine then_r ?_
          refine inb_r ?_
          refine then_r ?_
          exact fin_b rfl (range_not (i := i) (by omega) (rise_f2 hgx (by omega) (by omega))).symm
        · have b5p := b5; try simp only [decide_eq_true_eq, decide_eq_false_iff_not, Bool.not_eq_true', Bool.not_eq_false', bne_iff_ne, ne_eq, bne_eq_false_iff_eq, beq_iff_eq, beq_eq_false_iff_ne, Int.natCast_inj] at b5p
          refine aw_skip ?_
          refine inb_n ?_
          refine then_n ?_
          refine aw_region ?_
          refine rr_pure (rp rfl) rfl rfl rfl ?_
          refine rr_pure (r_addn rfl rfl rfl ⟨by omega, by omega⟩) rfl rfl rfl ?_
          refine rr_pure (rp rfl) rfl rfl rfl ?_
          refine rr_nil rfl ?_
          refine then_n ?_
          exact ⟨i + 1, ⟨by omega, range_step hi.2 (by first | exact rise_t hgx g2p (.inl (by omega)) | exact rise_t hgx g2p (.inr (by omega)))⟩, by omega, (by repeat (first | exact Sub.nil _ | refine Sub.cons rfl ?_)), rfl⟩
      · have g4p := g4; try simp only [decide_eq_true_eq, decide_eq_false_iff_not, Bool.not_eq_true', Bool.not_eq_false', bne_iff_ne, ne_eq, bne_eq_false_iff_eq, beq_iff_eq, beq_eq_false_iff_ne, Int.natCast_inj] at g4p
        refine rr_skip rfl rfl g4 ?_
        refine rr_skip rfl rfl g4 ?_
        refine rr_skip rfl rfl g4 ?_
        refine rr_skip rfl rfl g4 ?_
        refine rr_skip rfl rfl g4 ?_
        refine rr_skip rfl rfl g4 ?_
        refine rr_skip rfl rfl g4 ?_
        refine rr_skip rfl rfl g4 ?_
        refine rr_skip rfl rfl g4 ?_
        refine rr_skip rfl rfl g4 ?_
        refine rr_pure (r_pick_f rfl rfl g4 rfl) rfl rfl g2 ?_
        refine rr_pure (r_pick_f rfl rfl g2 rfl) rfl rfl rfl ?_
        refine rr_nil (by kernel_rfl) ?_
        refine then_n ?_
        refine aw_cond rfl (fun b6 => by first | cases b6 | (rw [b6] at b6; cases b6) | simp_all) (fun _ => ?_)
        refine aw_skip ?_
        refine inb_n ?_
        refine then_n ?_
        refine aw_region ?_
        refine rr_pure (rp rfl) rfl rfl rfl ?_
        refine rr_pure (r_addn rfl rfl rfl ⟨by omega, by omega⟩) rfl rfl rfl ?_
        refine rr_pure (rp rfl) rfl rfl rfl ?_
        refine rr_nil rfl ?_
        refine then_n ?_
        exact ⟨i + 1, ⟨by omega, range_step hi.2 (by first | exact rise_t hgx g2p (.inl (by omega)) | exact rise_t hgx g2p (.inr (by omega)))⟩, by omega, (by repeat (first | exact Sub.nil _ | refine Sub.cons rfl ?_)), rfl⟩
  · have b1p := b1; try simp only [decide_eq_true_eq, decide_eq_false_iff_not, Bool.not_eq_true', Bool.not_eq_false', bne_iff_ne, ne_eq, bne_eq_false_iff_eq, beq_iff_eq, beq_eq_false_iff_ne, Int.natCast_inj] at b1p
    have hil : i = xs.length := by omega
    subst hil
    refine aw_exit ?_
    refine then_x ?_
    refine then_x ?_
    refine inb_e ?_
    refine then_n ?_
    refine aw_seq ?_
    refine aw_region ?_
    refine rr_pure (rp rfl) rfl rfl rfl ?_
    refine rr_nil rfl ?_
    refine then_n ?_
    refine aw_ret ?_
    exact fin_b rfl hi.2.symm
def okRegion (w h : Int) (xs : List Int) : Bool := shape w h && rise 0 (w * h - 1) xs
theorem c97 (H : Heap) {v : AC} {xs : List Int} {w h : Int} (hr : Rd cx H 1 eI v xs) (hn : xs.length ≤ 2 ^ 44) : ACalls cx 97 [aI w, aI h, .c v] H (Vb (okRegion w h xs)) H := by
  refine acalls0 Try.func97 rfl rfl (fun S hS hw => ?_)
  refine aw_seq ?_
  refine aw_region ?_
  refine rr_pure (rp rfl) rfl rfl rfl ?_
  refine rr_nil rfl ?_
  refine then_n ?_
  refine aw_seq ?_
  refine aw_region ?_
  refine rr_pure (rp rfl) rfl rfl rfl ?_
  refine rr_pure (rp rfl) rfl rfl rfl ?_
  refine rr_read (r_callF rfl rfl rfl (c106 _)) rfl rfl rfl  ?_
  refine rr_pure (rp rfl) rfl rfl rfl ?_
  refine rr_split rfl (fun g1 => ?_) (fun g1 => ?_)
  · have g1p := g1; try simp only [decide_eq_true_eq, decide_eq_false_iff_not, Bool.not_eq_true', Bool.not_eq_false', bne_iff_ne, ne_eq, bne_eq_false_iff_eq, beq_iff_eq, beq_eq_false_iff_ne, Int.natCast_inj] at g1p
    refine rr_pure (rp rfl) rfl rfl g1 ?_
    refine rr_pure (rp rfl) rfl rfl g1 ?_
    refine rr_pure (rp rfl) rfl rfl g1 ?_
    refine rr_pure (r_muln rfl rfl rfl (by have := shape_b g1; constructor <;> omega)) rfl rfl g1 ?_
    refine rr_pure (r_subn rfl rfl rfl (by have := shape_b g1; constructor <;> omega)) rfl rfl g1 ?_
    refine rr_read (r_callF rfl rfl rfl (c107 _ hr.app hn)) rfl rfl g1  ?_
    refine rr_pure (r_pick_t rfl rfl g1 rfl) rfl rfl rfl ?_
    refine rr_pure (rp rfl) rfl rfl rfl ?_
    refine rr_nil rfl ?_
    refine then_n ?_
    refine aw_ret ?_
    exact fin_b rfl (by simp_all [okRegion])
  · have g1p := g1; try simp only [decide_eq_true_eq, decide_eq_false_iff_not, Bool.not_eq_true', Bool.not_eq_false', bne_iff_ne, ne_eq, bne_eq_false_iff_eq, beq_iff_eq, beq_eq_false_iff_ne, Int.natCast_inj] at g1p
    refine rr_skip rfl rfl g1 ?_
    refine rr_skip rfl rfl g1 ?_
    refine rr_skip rfl rfl g1 ?_
    refine rr_skip rfl rfl g1 ?_
    refine rr_skip rfl rfl g1 ?_
    refine rr_skip rfl rfl g1 ?_
    refine rr_pure (r_pick_f rfl rfl g1 rfl) rfl rfl rfl ?_
    refine rr_pure (rp rfl) rfl rfl rfl ?_
    refine rr_nil rfl ?_
    refine then_n ?_
    refine aw_ret ?_
    exact fin_b rfl (by simp_all [okRegion])
theorem c68 (H : Heap) {w h w' h' : Int} {v v' : AC} {xs ys : List Int} (hr : Rd cx H 1 eI v xs) (hr' : Rd cx H 1 eI v' ys) (hn : xs.length ≤ 2 ^ 44) (hn' : ys.length ≤ 2 ^ 44) : ACalls cx 68 [aF w h v, aF w' h' v'] H (Vb (okField w h xs && okField w' h' ys && w == w' && h == h')) H := by
  refine acalls0 Try.func68 rfl rfl (fun S hS hw => ?_)
  refine aw_seq ?_
  refine aw_region ?_
  refine rr_memL (r_boxL rfl rfl) rfl rfl rfl ?_
  refine rr_memL (r_boxL rfl rfl) rfl rfl rfl ?_
  refine rr_pure (rp rfl) rfl rfl rfl ?_
  refine rr_nil rfl ?_
  refine then_n ?_
  refine aw_seq ?_
  refine aw_region ?_
  first
    | refine rr_read (r_loadL rfl rfl rfl rfl rfl) rfl rfl rfl ?_
    | refine rr_read (r_loadA rfl rfl rfl (Rd.at (by assumption) (by assumption)) rfl) rfl rfl rfl ?_
  refine rr_read (r_callF rfl rfl rfl (c96 _ hr.app hn)) rfl rfl rfl  ?_
  refine rr_pure (rp rfl) rfl rfl rfl ?_
  refine rr_split rfl (fun g1 => ?_) (fun g1 => ?_)
  · have g1p := g1; try simp only [decide_eq_true_eq, decide_eq_false_iff_not, Bool.not_eq_true', Bool.not_eq_false', bne_iff_ne, ne_eq, bne_eq_false_iff_eq, beq_iff_eq, beq_eq_false_iff_ne, Int.natCast_inj] at g1p
    first
      | refine rr_read (r_loadL rfl rfl rfl rfl rfl) rfl rfl g1 ?_
      | refine rr_read (r_loadA rfl rfl rfl (Rd.at (by assumption) (by assumption)) rfl) rfl rfl g1 ?_
    refine rr_read (r_callF rfl rfl rfl (c96 _ hr'.app hn')) rfl rfl g1  ?_
    refine rr_pure (r_pick_t rfl rfl g1 rfl) rfl rfl rfl ?_
    refine rr_pure (rp rfl) rfl rfl rfl ?_
    refine rr_split rfl (fun g2 => ?_) (fun g2 => ?_)
    · have g2p := g2; try simp only [decide_eq_true_eq, decide_eq_false_iff_not, Bool.not_eq_true', Bool.not_eq_false', bne_iff_ne, ne_eq, bne_eq_false_iff_eq, beq_iff_eq, beq_eq_false_iff_ne, Int.natCast_inj] at g2p
      refine rr_pure (rp rfl) rfl rfl g2 ?_
      first
        | refine rr_read (r_loadL rfl rfl rfl rfl rfl) rfl rfl g2 ?_
        | refine rr_read (r_loadA rfl rfl rfl (Rd.at (by assumption) (by assumption)) rfl) rfl rfl g2 ?_
      refine rr_pure (rp rfl) rfl rfl g2 ?_
      first
        | refine rr_read (r_loadL rfl rfl rfl rfl rfl) rfl rfl g2 ?_
        | refine rr_read (r_loadA rfl rfl rfl (Rd.at (by assumption) (by assumption)) rfl) rfl rfl g2 ?_
      refine rr_pure (rp rfl) rfl rfl g2 ?_
      refine rr_pure (r_pick_t rfl rfl g2 rfl) rfl rfl rfl ?_
      refine rr_pure (rp rfl) rfl rfl rfl ?_
      refine rr_split rfl (fun g3 => ?_) (fun g3 => ?_)
      · have g3p := g3; try simp only [decide_eq_true_eq, decide_eq_false_iff_not, Bool.not_eq_true', Bool.not_eq_false', bne_iff_ne, ne_eq, bne_eq_false_iff_eq, beq_iff_eq, beq_eq_false_iff_ne, Int.natCast_inj] at g3p
        refine rr_pure (rp rfl) rfl rfl g3 ?_
        first
          | refine rr_read (r_loadL rfl rfl rfl rfl rfl) rfl rfl g3 ?_
          | refine rr_read (r_loadA rfl rfl rfl (Rd.at (by assumption) (by assumption)) rfl) rfl rfl g3 ?_
        refine rr_pure (rp rfl) rfl rfl g3 ?_
        first
          | refine rr_read (r_loadL rfl rfl rfl rfl rfl) rfl rfl g3 ?_
          | refine rr_read (r_loadA rfl rfl rfl (Rd.at (by assumption) (by assumption)) rfl) rfl rfl g3 ?_
        refine rr_pure (rp rfl) rfl rfl g3 ?_
        refine rr_pure (r_pick_t rfl rfl g3 rfl) rfl rfl rfl ?_
        refine rr_pure (rp rfl) rfl rfl rfl ?_
        refine rr_nil rfl ?_
        refine then_n ?_
        refine aw_ret ?_
        exact fin_b rfl (by simp_all)
      · have g3p := g3; try simp only [decide_eq_true_eq, decide_eq_false_iff_not, Bool.not_eq_true', Bool.not_eq_false', bne_iff_ne, ne_eq, bne_eq_false_iff_eq, beq_iff_eq, beq_eq_false_iff_ne, Int.natCast_inj] at g3p
        refine rr_skip rfl rfl g3 ?_
        refine rr_skip rfl rfl g3 ?_
        refine rr_skip rfl rfl g3 ?_
        refine rr_skip rfl rfl g3 ?_
        refine rr_skip rfl rfl g3 ?_
        refine rr_pure (r_pick_f rfl rfl g3 rfl) rfl rfl rfl ?_
        refine rr_pure (rp rfl) rfl rfl rfl ?_
        refine rr_nil rfl ?_
        refine then_n ?_
        refine aw_ret ?_
        exact fin_b rfl (by simp_all)
    · have g2p := g2; try simp only [decide_eq_true_eq, decide_eq_false_iff_not, Bool.not_eq_true', Bool.not_eq_false', bne_iff_ne, ne_eq, bne_eq_false_iff_eq, beq_iff_eq, beq_eq_false_iff_ne, Int.natCast_inj] at g2p
      refine rr_skip rfl rfl g2 ?_
      refine rr_skip rfl rfl g2 ?_
      refine rr_skip rfl rfl g2 ?_
      refine rr_skip rfl rfl g2 ?_
      refine rr_skip rfl rfl g2 ?_
      refine rr_pure (r_pick_f rfl rfl g2 rfl) rfl rfl rfl ?_
      refine rr_pure (rp rfl) rfl rfl rfl ?_
      refine rr_skip rfl rfl rfl ?_
      refine rr_skip rfl rfl rfl ?_
      refine rr_skip rfl rfl rfl ?_
      refine rr_skip rfl rfl rfl ?_
      refine rr_skip rfl rfl rfl ?_
      refine rr_pure (r_pick_f rfl rfl rfl rfl) rfl rfl rfl ?_
      refine rr_pure (rp rfl) rfl rfl rfl ?_
      refine rr_nil rfl ?_
      refine then_n ?_
      refine aw_ret ?_
      exact fin_b rfl (by simp_all)
  · have g1p := g1; try simp only [decide_eq_true_eq, decide_eq_false_iff_not, Bool.not_eq_true', Bool.not_eq_false', bne_iff_ne, ne_eq, bne_eq_false_iff_eq, beq_iff_eq, beq_eq_false_iff_ne, Int.natCast_inj] at g1p
    refine rr_skip rfl rfl g1 ?_
    refine rr_skip rfl rfl g1 ?_
    refine rr_pure (r_pick_f rfl rfl g1 rfl) rfl rfl rfl ?_
    refine rr_pure (rp rfl) rfl rfl rfl ?_
    refine rr_skip rfl rfl rfl ?_
    refine rr_skip rfl rfl rfl ?_
    refine rr_skip rfl rfl rfl ?_
    refine rr_skip rfl rfl rfl ?_
    refine rr_skip rfl rfl rfl ?_
    refine rr_pure (r_pick_f rfl rfl rfl rfl) rfl rfl rfl ?_
    refine rr_pure (rp rfl) rfl rfl rfl ?_
    refine rr_skip rfl rfl rfl ?_
    refine rr_skip rfl rfl rfl ?_
    refine rr_skip rfl rfl rfl ?_
    refine rr_skip rfl rfl rfl ?_
    refine rr_skip rfl rfl rfl ?_
    refine rr_pure (r_pick_f rfl rfl rfl rfl) rfl rfl rfl ?_
    refine rr_pure (rp rfl) rfl rfl rfl ?_
    refine rr_nil rfl ?_
    refine then_n ?_
    refine aw_ret ?_
    exact fin_b rfl (by simp_all)
def asked (w h : Int) (xs rs : List Int) : Bool := okField w h xs && okRegion w h rs
theorem c69 (H : Heap) {w h : Int} {v v' : AC} {xs ys : List Int} (hr : Rd cx H 1 eI v xs) (hr' : Rd cx H 1 eI v' ys) (hn : xs.length ≤ 2 ^ 44) (hn' : ys.length ≤ 2 ^ 44) : ACalls cx 69 [aF w h v, .c v'] H (Vb (asked w h xs ys)) H := by
  refine acalls0 Try.func69 rfl rfl (fun S hS hw => ?_)
  refine aw_seq ?_
  refine aw_region ?_
  refine rr_memL (r_boxL rfl rfl) rfl rfl rfl ?_
  refine rr_pure (rp rfl) rfl rfl rfl ?_
  refine rr_nil rfl ?_
  refine then_n ?_
  refine aw_seq ?_
  refine aw_region ?_
  first
    | refine rr_read (r_loadL rfl rfl rfl rfl rfl) rfl rfl rfl ?_
    | refine rr_read (r_loadA rfl rfl rfl (Rd.at (by assumption) (by assumption)) rfl) rfl rfl rfl ?_
  refine rr_read (r_callF rfl rfl rfl (c96 _ hr.app hn)) rfl rfl rfl  ?_
  refine rr_pure (rp rfl) rfl rfl rfl ?_
  refine rr_split rfl (fun g1 => ?_) (fun g1 => ?_)
  · have g1p := g1; try simp only [decide_eq_true_eq, decide_eq_false_iff_not, Bool.not_eq_true', Bool.not_eq_false', bne_iff_ne, ne_eq, bne_eq_false_iff_eq, beq_iff_eq, beq_eq_false_iff_ne, Int.natCast_inj] at g1p
    refine rr_pure (rp rfl) rfl rfl g1 ?_
    first
      | refine rr_read (r_loadL rfl rfl rfl rfl rfl) rfl rfl g1 ?_
      | refine rr_read (r_loadA rfl rfl rfl (Rd.at (by assumption) (by assumption)) rfl) rfl rfl g1 ?_
    refine rr_pure (rp rfl) rfl rfl g1 ?_
    first
      | refine rr_read (r_loadL rfl rfl rfl rfl rfl) rfl rfl g1 ?_
      | refine rr_read (r_loadA rfl rfl rfl (Rd.at (by assumption) (by assumption)) rfl) rfl rfl g1 ?_
    refine rr_pure (rp rfl) rfl rfl g1 ?_
    refine rr_read (r_callF rfl rfl rfl (c97 _ hr'.app hn')) rfl rfl g1  ?_
    refine rr_pure (r_pick_t rfl rfl g1 rfl) rfl rfl rfl ?_
    refine rr_pure (rp rfl) rfl rfl rfl ?_
    refine rr_nil rfl ?_
    refine then_n ?_
    refine aw_ret ?_
    exact fin_b rfl (by simp_all [asked])
  · have g1p := g1; try simp only [decide_eq_true_eq, decide_eq_false_iff_not, Bool.not_eq_true', Bool.not_eq_false', bne_iff_ne, ne_eq, bne_eq_false_iff_eq, beq_iff_eq, beq_eq_false_iff_ne, Int.natCast_inj] at g1p
    refine rr_skip rfl rfl g1 ?_
    refine rr_skip rfl rfl g1 ?_
    refine rr_skip rfl rfl g1 ?_
    refine rr_skip rfl rfl g1 ?_
    refine rr_skip rfl rfl g1 ?_
    refine rr_skip rfl rfl g1 ?_
    refine rr_pure (r_pick_f rfl rfl g1 rfl) rfl rfl rfl ?_
    refine rr_pure (rp rfl) rfl rfl rfl ?_
    refine rr_nil rfl ?_
    refine then_n ?_
    refine aw_ret ?_
    exact fin_b rfl (by simp_all [asked])
theorem c62 {H : Heap} {b : Nat} (hb : H.length = b) {v : AC} {xs : List Int} (hr : Rd cx H 1 eI v xs) (hn : xs.length ≤ 2 ^ 43) : ACalls cx 62 [.c v] H (.v (.c (.sl (.l b) 0 xs.length xs.length false))) (H ++ [bI xs]) := by
  subst hb
  refine acallsN Try.func62 rfl rfl (fun S hS hw => ?_)
  refine aw_seq ?_
  refine aw_region ?_
  refine rr_pure (rp rfl) rfl rfl rfl ?_
  refine rr_nil rfl ?_
  refine then_n ?_
  refine aw_seq ?_
  refine aw_region ?_
  refine rr_memL (r_litE (α := Int) (enc := eI) rfl rfl rfl rfl) rfl rfl rfl ?_
  refine rr_pure (rp rfl) rfl rfl rfl ?_
  refine rr_eff (r_appR (enc := eI) rfl rfl rfl rfl rfl rfl rfl lI (hr.app) (by (try dsimp only); (try simp only [List.length_nil, Nat.zero_add]); omega) (by (try simp only [List.length_nil, Nat.zero_add]); omega)) rfl rfl rfl (by simp) ?_
  refine rr_pure (rp rfl) rfl rfl rfl ?_
  refine rr_nil rfl ?_
  refine then_n ?_
  refine aw_ret ?_
  exact fin_mv [1] (resA_tmp rfl resA_nil) (mv_one rfl (flat_plain pI xs)) (by simp [resT, AT.ren, AV.ren, AC.ren, renB_base]) (by simp [Lo, AT.ids, AV.ids, AC.ids])
theorem c70 {H : Heap} {b : Nat} (hb : H.length = b) {w h : Int} {v : AC} {xs : List Int} (hr : Rd cx H 1 eI v xs) (hn : xs.length ≤ 2 ^ 43) : ACalls cx 70 [aF w h v] H (.v (aF w h (.sl (.l b) 0 xs.length xs.length false))) (H ++ [bI xs]) := by
  subst hb
  refine acallsN Try.func70 rfl rfl (fun S hS hw => ?_)
  refine aw_seq ?_
  refine aw_region ?_
  refine rr_memL (r_boxL rfl rfl) rfl rfl rfl ?_
  refine rr_memL (r_allocL rfl rfl) rfl rfl rfl ?_
  refine rr_nil rfl ?_
  refine then_n ?_
  refine aw_seq ?_
  refine aw_region_draw ?_
  refine rr_pure (rp rfl) rfl rfl rfl ?_
  first
    | refine rr_read (r_loadL rfl rfl rfl rfl rfl) rfl rfl rfl ?_
    | refine rr_read (r_loadA rfl rfl rfl (Rd.at (by assumption) (by assumption)) rfl) rfl rfl rfl ?_
  refine rr_pure (rp rfl) rfl rfl rfl ?_
  first
    | refine rr_read (r_loadL rfl rfl rfl rfl rfl) rfl rfl rfl ?_
    | refine rr_read (r_loadA rfl rfl rfl (Rd.at (by assumption) (by assumption)) rfl) rfl rfl rfl ?_
  refine rr_pure (rp rfl) rfl rfl rfl ?_
  first
    | refine rr_read (r_loadL rfl rfl rfl rfl rfl) rfl rfl rfl ?_
    | refine rr_read (r_loadA rfl rfl rfl (Rd.at (by assumption) (by assumption)) rfl) rfl rfl rfl ?_
  refine rr_memL (r_callF rfl rfl rfl (c62 List.length_append hr.app hn)) rfl rfl rfl  ?_
  refine rr_pure (rp rfl) rfl rfl rfl ?_
  refine rr_eff (r_storeL rfl rfl rfl rfl rfl rfl rfl (Nat.le_of_ble_eq_true rfl)) rfl rfl rfl (by simp) ?_
  refine rr_nil (by kernel_rfl) ?_
  refine then_n ?_
  refine aw_ret ?_
  exact fin_mv [2] (resA_cell rfl rfl rfl rfl resA_nil) (mv_one rfl (flat_plain pI xs)) (by simp [resT, AT.ren, AV.ren, AC.ren, renB_base]; rfl) (by simp [Lo, AT.ids, AV.ids, AC.ids])
end Go.Proofs.Ytjjoigokeicneaa
