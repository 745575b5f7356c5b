/- Fields of elements; slices cut. -/
import Derived.Test.YtfdopoijhjbamaaDoorAwU
namespace Go.Aw
set_option linter.unusedVariables false
set_option linter.unusedSimpArgs false
section
variable {X : Cx} {N : FK} {S : St} {ops : Array Oper} {chk : List (Nat × Nat) → Bool} {k : Nat} {o : Oper} {rest : List Oper} {E : Env} {H L L1 : Heap} {K : Env → Heap → Prop} {Q : APost}

/-- A part of an element. -/
theorem Rd.atf {α : Type} {sz : Nat} {enc : α → List AC} {v : AC} {xs : List α} (h : Rd X H sz enc v xs) {i : Nat} {x : α} (hx : xs[i]? = some x) (k m : Nat) (hk : k + m ≤ sz) : ld X H v.bd (v.of + i * sz + k) m = some (((enc x).drop k).take m) := ld_sub (h.at hx) hk

theorem lput_lput {α : Type} {cs w vs : List α} {p m k : Nat} (hw : (cs.drop p).take m = w) (hl : w.length = m) (hk : k + vs.length ≤ m) : lput cs p (lput w k vs) = lput cs (p + k) vs := by
  have hcl : p + m ≤ cs.length ∨ m = 0 := by
    have := congrArg List.length hw
    simp only [List.length_take, List.length_drop, hl] at this
    omega
  rcases hcl with hcl | hm
  · have e1 : (lput w k vs).length = m := by rw [lput_length (by omega), hl]
    apply List.ext_getElem?
    intro q
    rw [lput_get (cs := cs) (off := p) (by omega), lput_get (cs := cs) (off := p + k) (by omega), e1]
    by_cases h1 : q < p
    · rw [if_pos h1, if_pos (by omega)]
    · rw [if_neg h1]
      by_cases h2 : q < p + m
      · rw [if_pos h2, lput_get (by omega)]
        by_cases h3 : q < p + k
        · rw [if_pos (by omega), if_pos h3, ← hw, List.getElem?_take, if_pos (by omega), List.getElem?_drop]
          congr 1; omega
        · rw [if_neg (by omega), if_neg h3]
          by_cases h4 : q < p + k + vs.length
          · rw [if_pos (by omega), if_pos h4]
            congr 1; omega
          · rw [if_neg (by omega), if_neg h4, ← hw, List.getElem?_take, if_pos (by omega), List.getElem?_drop]
            congr 1; omega
      · rw [if_neg h2, if_neg (by omega), if_neg (by omega)]
  · subst hm
    have hk0 : k = 0 := by omega
    have hv : vs = [] := List.length_eq_zero_iff.1 (by omega)
    have hw0 : w = [] := List.length_eq_zero_iff.1 hl
    subst hk0; subst hv; subst hw0
    simp [lput]
theorem lput_field {α : Type} {enc : α → List AC} {sz i k : Nat} {ys : List α} {e e' : α} {vs : List AC} (hs : ∀ x, (enc x).length = sz) (hi : ys[i]? = some e) (he : lput (enc e) k vs = enc e') (hk : k + vs.length ≤ sz) : lput (ys.flatMap enc) (i * sz + k) vs = (ys.set i e').flatMap enc := by
  rw [← lput_flat hs e' ys i (List.getElem?_eq_some_iff.1 hi).1, ← he]
  exact (lput_lput (flatMap_at hs ys i e hi) (hs e) hk).symm
/-- A part of an element of one's own row is written. -/
theorem r_storeJ {α : Type} {t : Nat} {x y : Operand} {d : TD} {j i k z sz : Nat} {v : AV} {enc : α → List AC} {ys : List α} {e e' : α} {b0 : Option Blk} (ho : o.op = .store t x y) (ht : X.ty t = some d) (hx : opv X E x = some (.v (.c (.pt (.l (H.length + j)) (0 + i * sz + k))))) (hy : opv X E y = some (.v v)) (hj : L[j]? = some b0)
    (hi : ys[i]? = some e) (he : lput (enc e) k v.cells = enc e') (hs : ∀ x, (enc x).length = sz) (hv : v.cells.length = d.size) (hk : k + d.size ≤ sz) : OS X o E (H ++ L.set j (some ⟨ys.flatMap enc, true, z⟩)) none (H ++ L.set j (some ⟨(ys.set i e').flatMap enc, true, z⟩)) := by
  have hlt := (List.getElem?_eq_some_iff.1 hi).1
  have hle : 0 + i * sz + k + v.cells.length ≤ (ys.flatMap enc).length := by
    rw [hv, flatMap_len hs]
    have : (i + 1) * sz ≤ ys.length * sz := Nat.mul_le_mul_right _ hlt
    rw [Nat.add_mul, Nat.one_mul] at this
    omega
  have := r_storeL (X := X) (H := H) (L := L.set j (some ⟨ys.flatMap enc, true, z⟩)) ho ht hx hy (set_at hj) rfl hv hle
  rw [List.set_set] at this
  simp only [Nat.zero_add] at this
  rw [lput_field hs hi he (by omega)] at this
  exact this
/-- x[:h]. -/
def AC.upto : AC → Nat → AC
  | .sl b off n lo ex, h => .sl b off h lo ex
  | x, _ => x
theorem flat_take {α : Type} {enc : α → List AC} {sz : Nat} (hs : ∀ x, (enc x).length = sz) : ∀ (xs : List α) (h : Nat), (xs.flatMap enc).take (h * sz) = (xs.take h).flatMap enc
  | [], h => by simp
  | x :: xs, 0 => by simp
  | x :: xs, h + 1 => by
    simp only [List.flatMap_cons, List.take_succ_cons]
    rw [List.take_append, hs x, List.take_of_length_le (by rw [hs, Nat.add_mul]; omega), ← flat_take hs xs h]
    congr 2
    rw [Nat.add_mul]; omega
theorem flat_drop {α : Type} {enc : α → List AC} {sz : Nat} (hs : ∀ x, (enc x).length = sz) : ∀ (xs : List α) (h : Nat), (xs.flatMap enc).drop (h * sz) = (xs.drop h).flatMap enc
  | [], h => by simp
  | x :: xs, 0 => by simp
  | x :: xs, h + 1 => by
    simp only [List.flatMap_cons, List.drop_succ_cons]
    rw [List.drop_append, hs x, List.drop_eq_nil_of_le (by rw [hs, Nat.add_mul]; omega), ← flat_drop hs xs h, List.nil_append]
    congr 1
    rw [Nat.add_mul]; omega
theorem Rd.upto {α : Type} {sz : Nat} {enc : α → List AC} {v : AC} {xs : List α} (h : Rd X H sz enc v xs) {i : Nat} (hi : i ≤ xs.length) : Rd X H sz enc (v.upto i) (xs.take i) := by
  cases v with
  | ns => cases h; simp [Rd, AC.upto]
  | em => cases h; simp [Rd, AC.upto]
  | sl bd off n lo ex =>
    obtain ⟨rfl, h1, h2⟩ := h
    refine ⟨by simp; omega, ?_, h2⟩
    have := ld_sub (k := 0) (m := i * sz) h1 (by have := Nat.mul_le_mul_right sz hi; omega)
    rw [List.drop_zero, flat_take h2, Nat.add_zero] at this
    exact this
  | _ => cases h
theorem r_cutTo {α : Type} {enc : α → List AC} {xs : List α} {t el : Nat} {x y : Operand} {v : AC} {i s1 b1 : Nat} {zz1 : List ZC} {d : TD} (ho : o.op = .slice t x none (some y) none) (ht : X.ty t = some ⟨.slice el, s1, b1, zz1⟩) (he : X.ty el = some d) (hx : opv X E x = some (.v (.c v)))
    (hy : opv X E y = some (I64 (i : Int))) (hr : ∃ H sz, Rd (α := α) X H sz enc v xs) (hi : i ≤ xs.length) (H : Heap) : OS X o E H (some (.v (.c (v.upto i)))) H := by
  obtain ⟨H0, sz, hr⟩ := hr
  cases v with
  | ns =>
    cases hr
    simp at hi; subst hi
    exact r_cut_nil ho ht he hx trivial (by simpa using hy) H
  | em =>
    cases hr
    simp at hi; subst hi
    exact os_val fun ι a w hi hr => by
      obtain ⟨ad, c, e1⟩ := hr x (by simp [ho, Op.operands]) _ hx
      obtain ⟨ti, zv, i1, i2, _⟩ := ty_info he
      have hu := ty_slice ht
      obtain ⟨e2, _⟩ : a.eval y = .int .i64 0 ∧ _ := hr y (by simp [ho, Op.operands]) _ hy
      refine ⟨.slice (some (if c = 0 then ad else ad.add (0 * ti.size))) 0 c, ?_, _, _, rfl⟩
      simp [execOp, ho, e1, e2, Instr.sliceAt, Instr.slice, run_underlying hu, Instr.sliceBounds, Instr.sliceBound, asIntOf, sizeOf, typeInfo, i1]
      by_cases hc : c = 0 <;> simp [hc]
  | sl bd off n lo ex =>
    obtain ⟨rfl, _⟩ := hr
    exact os_val fun ι a w hi' hr => by
      obtain ⟨L, c, hL, e1, g1, g2, g3, g4, g5⟩ := hr x (by simp [ho, Op.operands]) _ hx
      obtain ⟨ti, zv, i1, i2, _⟩ := ty_info he
      have hu := ty_slice ht
      obtain ⟨e2, _⟩ : a.eval y = .int .i64 i ∧ _ := hr y (by simp [ho, Op.operands]) _ hy
      refine ⟨.slice (some ⟨L.blk, L.off + off, none⟩) i c, ?_, L, c, hL, rfl, by omega, g2, g3, g4, g5⟩
      have i5 : i ≤ c := by omega
      simp [execOp, ho, e1, e2, Instr.sliceAt, Instr.slice, run_underlying hu, Instr.sliceBounds, Instr.sliceBound, asIntOf, sizeOf, typeInfo, i1, i5]
      by_cases hc : c = 0 <;> simp [hc, add_addr]
  | _ => cases hr
end
end Go.Aw
