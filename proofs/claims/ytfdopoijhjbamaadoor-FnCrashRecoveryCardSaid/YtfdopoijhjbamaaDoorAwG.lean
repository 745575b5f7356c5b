/- Slices: literals, makes, appends, cuts; and calls. -/
import Derived.Test.YtfdopoijhjbamaaDoorAwF
import Derived.Great.BuildSlice
namespace Go.Aw
open Go.RowKit
set_option linter.unusedVariables false
set_option linter.unusedSimpArgs false

/-- Zeros, n cells of them. -/
def zrow (zs : List AC) (n : Nat) : List AC := (List.range n).map fun i => zs.getD (i % zs.length) .ns

theorem made_rc {ι : Inj} {zz : List ZC} {z : Array Value} (h : zeqs zz z.toList = true) (hp : 0 < z.size) (n : Nat) : A2 (RC ι) (zrow (zz.map ZC.ac) n) (madeCells z n).toList := by
  have h1 := zeqs_rc (ι := ι) h
  have hl := h1.length
  simp only [Array.length_toList] at hl
  refine A2.of_get _ _ (by simp [zrow, madeCells]) ?_
  intro i x y hx hy
  simp only [zrow, madeCells, List.getElem?_map, Array.toList_map, Array.toList_range] at hx hy
  by_cases hi : i < n
  · rw [List.getElem?_range hi] at hx hy
    simp only [Option.map_some, Option.some.injEq] at hx hy
    subst hx; subst hy
    have hm : i % z.size < z.size := Nat.mod_lt _ hp
    rw [hl]
    obtain ⟨v, a1, a2⟩ := h1.get (i % z.size) ((zz.map ZC.ac).getD (i % z.size) .ns) (by
      have : i % z.size < (zz.map ZC.ac).length := by omega
      rw [List.getElem?_eq_getElem this, List.getD_eq_getElem?_getD, List.getElem?_eq_getElem this]
      rfl)
    have h5 : z[i % z.size]? = some v := by simpa using a1
    rw [getElem?_pos z _ hm] at h5
    simp only [Option.some.injEq] at h5
    rw [getElem!_pos z _ hm, h5]
    exact a2
  · rw [List.getElem?_eq_none (by simpa using hi)] at hx
    cases hx

section
variable {X : Cx} {o : Oper} {E : Env} {H : Heap}

/-- A slice's literal. -/
theorem r_lit {t el : Nat} {len : Nat} {parts : List (Nat × Operand)} {s1 b1 : Nat} {zz1 : List ZC} {d : TD} {vs : List AV} {cs : List AC} (ho : o.op = .buildSlice t len parts.toArray) (ht : X.ty t = some ⟨.slice el, s1, b1, zz1⟩) (he : X.ty el = some d)
    (hv : opvs X E (parts.map (·.2)) = some vs) (hs : Nat.ble (len * d.size) 16777216 = true) (hp : Nat.blt 0 d.size = true) (hf : fillA (fun i => some (i * d.size, d.size)) (zrow (d.zero.map ZC.ac) (len * d.size)) ((parts.map (·.1)).zip vs) = some cs) :
    OS X o E H (some (.v (.c (.sl (.l H.length) 0 len len true)))) (H ++ [some ⟨cs, true, d.size⟩]) :=
  os_step fun ι a w hi hn hr => by
    obtain ⟨ti, zv, h1, h2, h3, h4, h5, h6⟩ := ty_info he
    have hu := ty_slice ht
    simp only [Nat.ble_eq] at hs
    simp only [Nat.blt_eq] at hp
    have hvs := opvs_sound (ι := ι) (a := a) hv (fun x hx v hxv => hr x (by
      simp only [ho, Op.operands]
      simpa using hx) v hxv)
    have hrow := made_rc (ι := ι) h5 (by omega) (len * d.size)
    obtain ⟨arr', h7, h8⟩ := fill_sound (fun i => some (i * d.size, d.size)) _ vs _ hvs _ _ hrow cs hf
    have hparts : (parts.map fun p => (p.1, a.eval p.2)) = (parts.map (·.1)).zip ((parts.map (·.2)).map a.eval) := by
      clear hf hv hvs h7 ho
      induction parts with
      | nil => rfl
      | cons p ps ih => simp [ih]
    have hlen : arr'.size = len * d.size := by
      have fl : ∀ (is : List Nat) (vs : List Value) (arr arr' : Array Value), Instr.fill (fun i => some (i * d.size, d.size)) arr (is.zip vs) = some arr' → arr'.size = arr.size := by
        intro is
        induction is with
        | nil => intro vs arr arr' h; simp [Instr.fill] at h; rw [h]
        | cons i is ih =>
          intro vs arr arr' h
          cases vs with
          | nil => simp [Instr.fill] at h; rw [h]
          | cons v vs =>
            simp only [List.zip_cons_cons, Instr.fill] at h
            split at h
            · cases h
            · rename_i hc
              rw [ih vs _ _ h]
              have : ∀ (l : List (Value × Nat)) (arr : Array Value), (l.foldl (fun cs (p : Value × Nat) => cs.setIfInBounds (i * d.size + p.2) p.1) arr).size = arr.size := by
                intro l
                induction l with
                | nil => intro arr; rfl
                | cons q l ih => intro arr; simp [ih]
              rw [← Array.foldl_toList]
              exact this _ _
      rw [fl _ _ _ _ h7]
      simp [madeCells]
    refine ⟨_, .slice (some ⟨w.heap.size, 0, none⟩) len len, _, ?_, ?_, step_new (esz := d.size) (t := el) (arr := arr') (cs := cs) hi hn (w1 := w) rfl rfl rfl rfl (by have := h8.length; simp at this; omega) h8.get_some⟩
    · rw [← hparts] at h7
      by_cases hz : len * d.size = 0
      · have : len = 0 := by
          rcases Nat.eq_zero_or_pos len with h | h
          · exact h
          · have := Nat.mul_pos h hp; omega
        subst this
        have h0 : madeCells zv.cells (0 * d.size) = #[] := by simp [madeCells]
        rw [h0] at h7
        have e0 : Array.range 0 = #[] := rfl
        simp [execOp, ho, Instr.buildSlice, run_underlying hu, sizeOf, typeInfo, h1, h2, newRow, e0, h7]
      · have hh := run_buildSlice (P := X.P) w t el len (parts.map fun p => (p.1, a.eval p.2)).toArray arr' ti zv hu h1 h4 (by rw [h2]; omega) (by rw [h2]; exact hz) (by rw [h2]; exact h7)
        simp only [execOp, ho]
        simp [hh]
    · refine ⟨_, len, upd_same _ _ _, rfl, Nat.le_refl _, Nat.le_refl _, (fun _ => rfl), ?_, ?_⟩
      · have : len * 1 ≤ len * d.size := Nat.mul_le_mul_left _ hp
        unfold maxLen
        omega
      · simp only; omega

/-- A made slice. -/
theorem r_make {t el : Nat} {x y : Operand} {s1 b1 : Nat} {zz1 : List ZC} {d : TD} {n : Int} (ho : o.op = .makeSlice t x y) (ht : X.ty t = some ⟨.slice el, s1, b1, zz1⟩) (he : X.ty el = some d) (hx : opv X E x = some (I64 n)) (hy : opv X E y = some (I64 n)) (h0 : 0 ≤ n)
    (hb : (d.bytes : Int) * n ≤ 281474976710656) (hm : n ≤ 4611686018427387904) (hp : Nat.blt 0 d.size = true) :
    OS X o E H (some (.v (.c (.sl (.l H.length) 0 n.toNat n.toNat true)))) (H ++ [some ⟨zrow (d.zero.map ZC.ac) (n.toNat * d.size), true, d.size⟩]) :=
  os_step fun ι a w hi hn hr => by
    obtain ⟨ti, zv, h1, h2, h3, h4, h5, h6⟩ := ty_info he
    obtain ⟨e1, _⟩ : a.eval x = .int .i64 n ∧ _ := hr x (by simp [ho, Op.operands]) _ hx
    obtain ⟨e2, _⟩ : a.eval y = .int .i64 n ∧ _ := hr y (by simp [ho, Op.operands]) _ hy
    simp only [Nat.blt_eq] at hp
    have hrow := made_rc (ι := ι) h5 (by omega) (n.toNat * d.size)
    have hrun := run_make (P := X.P) w t el ti zv (ty_slice ht) h1 h4 .i64 .i64 n n h0 (Int.le_refl _) (by rw [h3]; exact hb) (by omega)
    rw [h2] at hrun
    have hz : (madeCells zv.cells (n.toNat * d.size)).size = n.toNat * d.size := by simp [madeCells]
    refine ⟨_, .slice (some ⟨w.heap.size, 0, none⟩) n.toNat n.toNat, _, ?_, ?_, step_new (esz := d.size) (t := el) hi hn (w1 := w) rfl rfl rfl rfl (by simp [zrow, madeCells]) hrow.get_some⟩
    · simp only [execOp, ho, e1, e2]
      simp [hrun]
    · refine ⟨_, n.toNat, upd_same _ _ _, rfl, Nat.le_refl _, Nat.le_refl _, (fun _ => rfl), ?_, ?_⟩
      · unfold maxLen; omega
      · simp only [hz]; omega

/-! ## Appends -/

/-- A source's elements. -/
def src (X : Cx) (H : Heap) (sz : Nat) : AT → Option (Nat × List AC)
  | .v (.c .ns) => some (0, [])
  | .v (.c .em) => some (0, [])
  | .v (.c (.sl b off m _ _)) => (ld X H b off (m * sz)).map fun cs => (m, cs)
  | _ => none

theorem src_sound {ι : Inj} {w : World} (hi : Inv X ι H w) {sz : Nat} {v : AT} {x : Value} {m : Nat} {cs : List AC} (hv : RT ι v x) (h : src X H sz v = some (m, cs)) :
    ∃ ao c vs, x = .slice ao m c ∧ vs.length = m * sz ∧ A2 (RC ι) cs vs ∧ (ao = none → m = 0 ∧ c = 0) ∧ ∀ ad, ao = some ad → ∀ (j : Nat) v, vs[j]? = some v → w.cell? (ad.add j) = some v := by
  unfold src at h
  split at h
  · cases h
    obtain rfl : x = .slice none 0 0 := hv
    exact ⟨none, 0, [], rfl, by simp, .nil, (fun _ => ⟨rfl, rfl⟩), (fun ad e => by cases e)⟩
  · cases h
    obtain ⟨a, c, rfl⟩ := hv
    exact ⟨some a, c, [], rfl, by simp, .nil, (fun e => by cases e), (fun ad e j v hj => by simp at hj)⟩
  · rename_i b off m lo ex
    cases hl : ld X H b off (m * sz) with
    | none => rw [hl] at h; cases h
    | some cs' =>
      rw [hl] at h
      simp only [Option.map_some, Option.some.injEq, Prod.mk.injEq] at h
      obtain ⟨rfl, rfl⟩ := h
      obtain ⟨L, c, h1, rfl, _⟩ := hv
      obtain ⟨vs, h2, h3, h4⟩ := ld_cells hi h1 hl
      exact ⟨_, c, vs, rfl, h2, h3, (fun e => by cases e), (fun ad e j v hj => by cases e; rw [add_addr]; exact h4 j v hj)⟩
  · cases h

theorem zeroCells_size (z : Array Value) (n : Nat) : (Builtin.zeroCells z n).size = n * z.size := by simp [Builtin.zeroCells]

theorem src_first {w : World} {sz m c : Nat} {ao : Option Addr} {vs : List Value} (hl : vs.length = m * sz) (hn : ao = none → m = 0 ∧ c = 0) (hc : ∀ ad, ao = some ad → ∀ (j : Nat) v, vs[j]? = some v → w.cell? (ad.add j) = some v) :
    (Builtin.firstCells sz m (.slice ao m c)).run X.P w = .ok vs.toArray w := by
  cases ao with
  | none =>
    obtain ⟨rfl, rfl⟩ := hn rfl
    have : vs = [] := List.eq_nil_of_length_eq_zero (by simpa using hl)
    subst this
    exact run_firstCells_none w sz 0 0 0
  | some ad => exact run_firstCells_some w sz m ad m c vs hl (hc ad rfl)

/-- An append to nil. -/
theorem r_app_nil {t el ty : Nat} {x y : Operand} {s1 b1 : Nat} {zz1 : List ZC} {d : TD} {v : AT} {m : Nat} {cs : List AC} (ho : o.op = .call { callee := .builtin .append, args := #[x, y], argTypes := #[t, t] }) (ht : X.ty t = some ⟨.slice el, s1, b1, zz1⟩) (he : X.ty el = some d)
    (hx : opv X E x = some (.v (.c .ns))) (hy : opv X E y = some v) (hs : src X H d.size v = some (m, cs)) (hm : 0 < m) (hb : m * d.bytes ≤ 140737488355328) (h63 : m ≤ maxLen) :
    OS X o E H (some (.v (.c (.sl (.l H.length) 0 m m false)))) (H ++ [some ⟨cs, true, d.size⟩]) :=
  os_step fun ι a w hi hn hr => by
    obtain ⟨ti, zv, h1, h2, h3, h4, h5, h6⟩ := ty_info he
    have e1 : a.eval x = .slice none 0 0 := hr x (by simp [ho, Op.operands, Call.operands]) _ hx
    obtain ⟨ao, c, vs, e2, hl, hA, hno, hc⟩ := src_sound hi (hr y (by simp [ho, Op.operands, Call.operands]) _ hy) hs
    cases ao with
    | none => have := (hno rfl).1; omega
    | some ad =>
    have hrun := run_append_nil (P := X.P) w t o.type el ti zv (ty_slice ht) h1 h4 ad m c vs (by rw [h2]; exact hl) (hc ad rfl) hm (by unfold maxLen at h63; omega) (by rw [h3]; omega)
    have hge := grownCap_ge w m 0 el
    have hcm := grownCap_le_maxLen w m 0 el h63
    have hlA := hA.length
    refine ⟨_, .slice (some ⟨w.heap.size, 0, none⟩) m (grownCap w m 0 el), _, ?_, ?_, step_new (esz := d.size) (t := el) (cs := cs) hi hn (w1 := w.drew) (arr := vs.toArray ++ Builtin.zeroCells zv.cells (grownCap w m 0 el - m)) rfl rfl rfl rfl (by simp; omega) ?_⟩
    · simp only [execOp, ho, resolve, invoke, builtin]
      simp [e1, e2, hrun]
    · refine ⟨_, grownCap w m 0 el, upd_same _ _ _, rfl, hge, hge, (fun h => by cases h), hcm, ?_⟩
      simp only [Array.size_append, List.size_toArray, zeroCells_size, hl, h6]
      rw [← Nat.add_mul]
      have : m + (grownCap w m 0 el - m) = grownCap w m 0 el := by omega
      rw [this]; omega
    · intro j c hj
      obtain ⟨u, a1, a2⟩ := hA.get j c hj
      have hlt : j < vs.length := (List.getElem?_eq_some_iff.1 a1).1
      exact ⟨u, by rw [Array.getElem?_append_left (by simpa using hlt)]; simpa using a1, a2⟩

/-- .. of nothing. -/
theorem r_app_nil0 {t el ty : Nat} {x y : Operand} {s1 b1 : Nat} {zz1 : List ZC} {d : TD} {v : AT} {cs : List AC} (ho : o.op = .call { callee := .builtin .append, args := #[x, y], argTypes := #[t, t] }) (ht : X.ty t = some ⟨.slice el, s1, b1, zz1⟩) (he : X.ty el = some d)
    (hx : opv X E x = some (.v (.c .ns))) (hy : opv X E y = some v) (hs : src X H d.size v = some (0, cs)) : OS X o E H (some (.v (.c .ns))) H :=
  os_val fun ι a w hi hr => by
    obtain ⟨ti, zv, h1, h2, h3, h4, h5, h6⟩ := ty_info he
    have e1 : a.eval x = .slice none 0 0 := hr x (by simp [ho, Op.operands, Call.operands]) _ hx
    obtain ⟨ao, c, vs, e2, hl, hA, hno, hc⟩ := src_sound hi (hr y (by simp [ho, Op.operands, Call.operands]) _ hy) hs
    have hf := src_first (X := X) hl hno hc
    refine ⟨.slice none 0 0, ?_, rfl⟩
    have hu := ty_slice ht
    simp only [execOp, ho, resolve, invoke, builtin]
    simp [e1, e2, Builtin.append_, run_underlying hu, sizeOf, typeInfo, h1, h2, Builtin.lenOf, hf]
end
end Go.Aw
