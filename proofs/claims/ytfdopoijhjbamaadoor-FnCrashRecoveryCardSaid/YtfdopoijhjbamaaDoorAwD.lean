/- The rules of operations that look at memory. -/
import Derived.Test.YtfdopoijhjbamaaDoorAwC
namespace Go.Aw
open Go.RowKit
set_option linter.unusedVariables false
set_option linter.unusedSimpArgs false

section
variable {X : Cx} {t e a b : Nat} {z : List ZC}
theorem ty_split {d : TD} (h : X.ty t = some d) : tiOk X.P t d = true ∧ tkOk X.P t d.k = true := by
  have := X.ty_ok h
  simpa [tdOk] using this
theorem ty_info {d : TD} (h : X.ty t = some d) : ∃ i zv, X.P.info? t = some i ∧ i.size = d.size ∧ i.bytes = d.bytes ∧ i.zero = some zv ∧ zeqs d.zero zv.cells.toList = true ∧ zv.cells.size = d.size := by
  have h1 := (ty_split h).1
  unfold tiOk at h1
  split at h1
  · rename_i i hi
    simp only [Bool.and_eq_true, beq_iff_eq] at h1
    obtain ⟨⟨h2, h3⟩, h4⟩ := h1
    split at h4
    · rename_i zv hz
      simp only [Bool.and_eq_true, beq_iff_eq] at h4
      exact ⟨i, zv, hi, h2, h3, hz, h4.1, h4.2⟩
    · cases h4
  · cases h1
theorem ty_str (h : X.ty t = some ⟨.str, a, b, z⟩) : X.P.underlying t = some .string := by
  have h1 := (ty_split h).2
  simp only [tkOk] at h1
  split at h1
  · assumption
  · cases h1
theorem ty_int {k : IntKind} (h : X.ty t = some ⟨.int k, a, b, z⟩) : X.P.underlying t = some (.int k) := by
  have h1 := (ty_split h).2
  simp only [tkOk] at h1
  split at h1
  · rename_i k' hk; simp only [beq_iff_eq] at h1; subst h1; exact hk
  · cases h1
theorem ty_slice (h : X.ty t = some ⟨.slice e, a, b, z⟩) : X.P.underlying t = some (.slice e) := by
  have h1 := (ty_split h).2
  simp only [tkOk] at h1
  split at h1
  · rename_i k' hk; simp only [beq_iff_eq] at h1; subst h1; exact hk
  · cases h1
theorem ty_arr {n : Nat} (h : X.ty t = some ⟨.arr n e, a, b, z⟩) : X.P.underlying t = some (.array n e) := by
  have h1 := (ty_split h).2
  simp only [tkOk] at h1
  split at h1
  · rename_i k' e' hk; simp only [Bool.and_eq_true, beq_iff_eq] at h1; obtain ⟨rfl, rfl⟩ := h1; exact hk
  · cases h1
theorem ty_struct {ps : List (Nat × Nat)} (h : X.ty t = some ⟨.struct ps, a, b, z⟩) : ∃ fs, X.P.underlying t = some (.struct fs) ∧ fsOk X.P fs.toList ps = true := by
  have h1 := (ty_split h).2
  simp only [tkOk] at h1
  split at h1
  · rename_i fs hk; exact ⟨fs, hk, h1⟩
  · cases h1
/-- Is a type told by several cells? -/
def TK.agg : TK → Bool
  | .struct _ => true
  | .arr _ _ => true
  | _ => false
theorem ty_isAgg {d : TD} (h : X.ty t = some d) (w : World) : (isAgg t).run X.P w = .ok d.k.agg w := by
  have h1 := (ty_split h).2
  unfold isAgg
  cases hk : d.k <;> simp only [hk, tkOk] at h1 <;> split at h1 <;> first | (rename_i hu; simp [run_underlying hu, TK.agg]; done) | (rename_i hu; simp [run_underlying hu, TK.agg]; split <;> simp_all) | cases h1
end

theorem zeq_rc {ι : Inj} {z : ZC} {v : Value} (h : zeq z v = true) : RC ι z.ac v := by
  unfold zeq at h
  split at h
  · simp only [Bool.and_eq_true, beq_iff_eq] at h; obtain ⟨rfl, rfl⟩ := h; exact ⟨rfl, rfl⟩
  · rename_i b; cases b with
    | true => cases h
    | false => exact ⟨rfl, rfl⟩
  · rename_i s
    simp only [beq_iff_eq] at h
    have : s = ⟨#[]⟩ := by
      cases s with
      | mk d => simp only at h; rw [Array.eq_empty_of_size_eq_zero h]
    exact ⟨by rw [this], rfl⟩
  · rfl
  · rfl
  · exact ⟨rfl, rfl⟩
  · exact ⟨rfl, rfl⟩
  · cases h
theorem zeqs_rc {ι : Inj} : ∀ {zs : List ZC} {vs : List Value}, zeqs zs vs = true → A2 (RC ι) (zs.map ZC.ac) vs
  | [], [], _ => .nil
  | z :: zs, v :: vs, h => by
    simp only [zeqs, Bool.and_eq_true] at h
    exact .cons (zeq_rc h.1) (zeqs_rc h.2)
  | [], _ :: _, h => by simp [zeqs] at h
  | _ :: _, [], h => by simp [zeqs] at h

/-! ## Places -/

theorem add_addr (g o n : Nat) : (⟨g, o, none⟩ : Addr).add n = ⟨g, o + n, none⟩ := by unfold Addr.add; split <;> simp_all

section
variable {X : Cx} {o : Oper} {E : Env}

/-- A field's place. -/
theorem r_fieldAddr {s : Nat} {x : Operand} {j : Nat} {bd : Bid} {off : Nat} {ps : List (Nat × Nat)} {p : Nat × Nat} {sz by_ : Nat} {zz : List ZC} (ho : o.op = .fieldAddr s x j) (hs : X.ty s = some ⟨.struct ps, sz, by_, zz⟩) (hj : ps[j]? = some p)
    (hx : opv X E x = some (.v (.c (.pt bd off)))) (H : Heap) : OS X o E H (some (.v (.c (.pt bd (off + p.1))))) H :=
  os_val fun ι ac w hi hr => by
    obtain ⟨L, h1, h2⟩ := hr x (by simp [ho, Op.operands]) _ hx
    obtain ⟨fs, hu, hf⟩ := ty_struct hs
    have key : ∀ (fs : List Field) (ps : List (Nat × Nat)) (j : Nat), fsOk X.P fs ps = true → ps[j]? = some p → ∃ f i, fs[j]? = some f ∧ f.offset = p.1 ∧ X.P.info? f.type = some i ∧ ¬ i.size = 0 := by
      intro fs
      induction fs with
      | nil => intro ps j h hj; cases ps with
        | nil => simp at hj
        | cons => simp [fsOk] at h
      | cons f fs ih =>
        intro ps j h hj
        cases ps with
        | nil => simp [fsOk] at h
        | cons q qs =>
          simp only [fsOk, Bool.and_eq_true, beq_iff_eq] at h
          cases j with
          | zero =>
            simp at hj; subst hj
            obtain ⟨⟨ha, hb⟩, _⟩ := h
            split at hb
            · rename_i i hi'
              simp only [Bool.and_eq_true, beq_iff_eq, Bool.not_eq_true', beq_eq_false_iff_ne] at hb
              exact ⟨f, i, rfl, ha, hi', hb.2⟩
            · cases hb
          | succ j => simpa using ih qs j h.2 (by simpa using hj)
    obtain ⟨f, i, hf1, hf2, hf3, hf4⟩ := key fs.toList ps j hf hj
    have hf1' : fs[j]? = some f := by simpa using hf1
    refine ⟨ptv L (off + p.1), ?_, L, h1, rfl⟩
    simp [execOp, ho, h2, ptv, Instr.fieldAt, run_underlying hu, hf1', Instr.sureAddr, fieldPlace, sizeOf, typeInfo, hf3, hf4, add_addr, hf2, Nat.add_assoc]

/-- An element's place. -/
theorem r_idx {t : Nat} {x y : Operand} {bd : Bid} {off n lo : Nat} {ex : Bool} {k : IntKind} {i : Int} {el s1 b1 s2 b2 : Nat} {z1 z2 : List ZC} {k2 : TK} (ho : o.op = .indexAddr t x y) (ht : X.ty t = some ⟨.slice el, s1, b1, z1⟩) (he : X.ty el = some ⟨k2, s2, b2, z2⟩)
    (hx : opv X E x = some (.v (.c (.sl bd off n lo ex)))) (hy : opv X E y = some (Vi k i)) (h0 : 0 ≤ i) (h1 : i < n) (H : Heap) : OS X o E H (some (.v (.c (.pt bd (off + i.toNat * s2))))) H :=
  os_val fun ι ac w hi hr => by
    obtain ⟨L, c, h2, h3, h4, _⟩ := hr x (by simp [ho, Op.operands]) _ hx
    obtain ⟨h5, _⟩ : ac.eval y = .int k i ∧ _ := hr y (by simp [ho, Op.operands]) _ hy
    obtain ⟨ti, zv, hi1, hi2, _⟩ := ty_info he
    refine ⟨ptv L (off + i.toNat * s2), ?_, L, h2, rfl⟩
    simp only at hi2
    simp [execOp, ho, h3, h5, Instr.indexAt, asIntOf, run_underlying (ty_slice ht), h0, h1, sizeOf, typeInfo, hi1, hi2, add_addr, ptv, Nat.add_assoc]

/-- An element's place in an array. -/
theorem r_idxa {t : Nat} {x y : Operand} {bd : Bid} {off n : Nat} {k : IntKind} {i : Int} {el s1 b1 s2 b2 : Nat} {z1 z2 : List ZC} {k2 : TK} (ho : o.op = .indexAddr t x y) (ht : X.ty t = some ⟨.arr n el, s1, b1, z1⟩) (he : X.ty el = some ⟨k2, s2, b2, z2⟩)
    (hx : opv X E x = some (.v (.c (.pt bd off)))) (hy : opv X E y = some (Vi k i)) (h0 : 0 ≤ i) (h1 : i < n) (H : Heap) : OS X o E H (some (.v (.c (.pt bd (off + i.toNat * s2))))) H :=
  os_val fun ι ac w hi hr => by
    obtain ⟨L, h2, h3⟩ := hr x (by simp [ho, Op.operands]) _ hx
    obtain ⟨h5, _⟩ : ac.eval y = .int k i ∧ _ := hr y (by simp [ho, Op.operands]) _ hy
    obtain ⟨ti, zv, hi1, hi2, _⟩ := ty_info he
    refine ⟨ptv L (off + i.toNat * s2), ?_, L, h2, rfl⟩
    simp only at hi2
    simp [execOp, ho, h3, h5, Instr.indexAt, asIntOf, run_underlying (ty_arr ht), h0, h1, sizeOf, typeInfo, hi1, hi2, add_addr, ptv, Nat.add_assoc, Instr.sureAddr]

/-- n cells from a place on. -/
def ld (X : Cx) (H : Heap) (bd : Bid) (off n : Nat) : Option (List AC) := match hget X H bd with
  | some k => if off + n ≤ k.cells.length then some ((k.cells.drop off).take n) else none
  | none => none

theorem ld_cells {ι : Inj} {H : Heap} {w : World} (hi : Inv X ι H w) {bd : Bid} {off n : Nat} {cs : List AC} {L : Loc} (hL : ι bd = some L) (h : ld X H bd off n = some cs) :
    ∃ vs : List Value, vs.length = n ∧ A2 (RC ι) cs vs ∧ ∀ (j : Nat) v, vs[j]? = some v → w.cell? ⟨L.blk, L.off + off + j, none⟩ = some v := by
  unfold ld at h
  split at h
  · rename_i k hk
    split at h
    · rename_i hle
      cases h
      obtain ⟨arr, t, fr, h1, h2, h3, _, _, h4⟩ := hi.blk bd L k hL hk
      refine ⟨(arr.toList.drop (L.off + off)).take n, ?_, ?_, ?_⟩
      · simp; omega
      · refine A2.of_get _ _ (by simp; omega) ?_
        intro i x y hx hy
        rw [List.getElem?_take] at hx hy
        split at hx
        · rw [List.getElem?_drop] at hx
          rw [if_pos (by assumption), List.getElem?_drop] at hy
          obtain ⟨v, h5, h6⟩ := h4 (off + i) x hx
          rw [← Nat.add_assoc] at h5
          have : arr.toList[L.off + off + i]? = some v := by simpa using h5
          rw [this] at hy
          cases hy
          exact h6
        · cases hx
      · intro j v hv
        rw [List.getElem?_take] at hv
        split at hv
        · rw [List.getElem?_drop] at hv
          simp only [World.cell?, h1]
          simpa using hv
        · cases hv
    · cases h
  · cases h

/-- What a place of a type holds. -/
def ldv (d : TD) (cs : List AC) : Option AV := if d.k.agg then some (.ag cs) else match cs with
  | [c] => some (.c c)
  | _ => none

theorem ldv_run {ι : Inj} {H : Heap} {w : World} (hi : Inv X ι H w) {t : Nat} {d : TD} (ht : X.ty t = some d) {bd : Bid} {off : Nat} {cs : List AC} {v : AV} {L : Loc} (hL : ι bd = some L) (h : ld X H bd off d.size = some cs) (hv : ldv d cs = some v) :
    ∃ x, (loadVar t ⟨L.blk, L.off + off, none⟩).run X.P w = .ok x w ∧ RV ι v x := by
  obtain ⟨vs, h1, h2, h3⟩ := ld_cells hi hL h
  obtain ⟨ti, zv, hi1, hi2, _⟩ := ty_info ht
  unfold ldv at hv
  unfold loadVar
  rw [Sem.run_bind, ty_isAgg ht w]
  split at hv
  · rename_i ha
    cases hv
    refine ⟨.agg vs.toArray, ?_, vs, rfl, h2⟩
    have hl := run_loadCells_list (P := X.P) w ⟨L.blk, L.off + off, none⟩ vs (fun j v hv => by rw [add_addr]; exact h3 j v hv)
    rw [h1] at hl
    simp [ha, sizeOf, typeInfo, hi1, hi2, hl]
  · rename_i ha
    split at hv
    · rename_i c
      cases hv
      cases h2 with
      | @cons _ y _ ys hc hr =>
      cases hr
      have h4 := h3 0 y rfl
      simp only [Nat.add_zero] at h4
      exact ⟨y, by simp [ha, h4], hc⟩
    · cases hv

theorem r_load {t : Nat} {x : Operand} {d : TD} {bd : Bid} {off : Nat} {cs : List AC} {v : AV} {H : Heap} (ho : o.op = .load t x) (ht : X.ty t = some d) (hx : opv X E x = some (.v (.c (.pt bd off)))) (hl : ld X H bd off d.size = some cs) (hv : ldv d cs = some v) :
    OS X o E H (some (.v v)) H :=
  os_val fun ι ac w hi hr => by
    obtain ⟨L, h1, h2⟩ := hr x (by simp [ho, Op.operands]) _ hx
    obtain ⟨y, h3, h4⟩ := ldv_run hi ht h1 hl hv
    refine ⟨y, ?_, h4⟩
    simp [execOp, ho, h2, ptv, Instr.loadAt, Instr.sureAddr, h3]
end
end Go.Aw
