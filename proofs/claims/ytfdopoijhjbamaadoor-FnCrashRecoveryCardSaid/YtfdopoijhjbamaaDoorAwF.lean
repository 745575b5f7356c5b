/- More rules: variables in memory, stores, literals, makes, appends, cuts, calls. -/
import Derived.Test.YtfdopoijhjbamaaDoorAwE
namespace Go.Aw
open Go.RowKit
set_option linter.unusedVariables false
set_option linter.unusedSimpArgs false

theorem os_step {X : Cx} {o : Oper} {E : Env} {H H' : Heap} {v : AT} (h : ∀ ι a w, Inv X ι H w → (∀ n, H.length ≤ n → ι (.l n) = none) → ROp X ι E a o.op →
    ∃ ι' x w', (execOp a.eval o).run X.P w = .ok (.value x) w' ∧ RT ι' v x ∧ Step X ι H w ι' H' w') : OS X o E H (some v) H' := by
  intro ι a w hi hn hr K Q hK
  obtain ⟨ι', x, w', h1, h2, h3⟩ := h ι a w hi hn hr
  unfold Oper.wp
  rw [h1]
  exact hK ι' x w' h3 (fun v' e => by cases e; exact h2)

theorem os_skip {X : Cx} {o : Oper} {E : Env} {H H' : Heap} (h : ∀ ι a w, Inv X ι H w → (∀ n, H.length ≤ n → ι (.l n) = none) → ROp X ι E a o.op →
    ∃ ι' w', (execOp a.eval o).run X.P w = .ok .skip w' ∧ Step X ι H w ι' H' w') : OS X o E H none H' := by
  intro ι a w hi hn hr K Q hK
  obtain ⟨ι', w', h1, h3⟩ := h ι a w hi hn hr
  unfold Oper.wp
  rw [h1]
  exact hK ι' undef w' h3 (fun v' e => by cases e)

/-- A value's cells. -/
def AV.cells : AV → List AC
  | .c x => [x]
  | .ag cs => cs
theorem one_cells {v : Value} (h : v.oneCell' = true) : v.cells = #[v] := by cases v <;> first | rfl | cases h
theorem RV.cells {ι : Inj} {v : AV} {x : Value} (h : RV ι v x) : A2 (RC ι) v.cells x.cells.toList := by
  cases v with
  | c c => rw [one_cells (RC.one h)]; exact .cons h .nil
  | ag cs => obtain ⟨vs, rfl, h2⟩ := h; simpa [AV.cells, Value.cells] using h2
theorem A2.one {ι : Inj} {cs : List AC} {vs : List Value} (h : A2 (RC ι) cs vs) : ∀ v ∈ vs, v.oneCell' = true := by
  induction h with
  | nil => intro v hv; simp at hv
  | cons h _ ih =>
    intro v hv
    rcases List.mem_cons.1 hv with e | hv
    · subst e; exact h.one
    · exact ih v hv
theorem A2.get_some {ι : Inj} {cs : List AC} {arr : Array Value} (h : A2 (RC ι) cs arr.toList) : ∀ (j : Nat) c, cs[j]? = some c → ∃ v, arr[j]? = some v ∧ RC ι c v := by
  intro j c hj
  obtain ⟨v, h1, h2⟩ := h.get j c hj
  exact ⟨v, by simpa using h1, h2⟩

section
variable {X : Cx} {o : Oper} {E : Env} {H : Heap}

theorem r_alloc {t : Nat} {d : TD} (ho : o.op = .alloc t) (ht : X.ty t = some d) : OS X o E H (some (.v (.c (.pt (.l H.length) 0)))) (H ++ [some ⟨d.zero.map ZC.ac, true, 0⟩]) :=
  os_step fun ι a w hi hn hr => by
    obtain ⟨ti, zv, h1, h2, h3, h4, h5, h6⟩ := ty_info ht
    have hz := zeqs_rc (ι := ι) h5
    have hl := hz.length
    refine ⟨_, ptv ⟨w.heap.size, 0, zv.cells.size, 0⟩ 0, _, ?_, ?_, step_new (esz := 0) (t := t) (arr := zv.cells) (cs := d.zero.map ZC.ac) hi hn (w1 := w) rfl rfl rfl rfl (by rw [hl]; simp) hz.get_some⟩
    · simp [execOp, ho, Instr.alloc, zeroValue, typeInfo, h1, h4, newVar, newRow, ptv]
    · exact ⟨_, upd_same _ _ _, rfl⟩

theorem r_box {t : Nat} {x : Operand} {v : AV} (ho : o.op = .box t x) (hx : opv X E x = some (.v v)) : OS X o E H (some (.v (.c (.pt (.l H.length) 0)))) (H ++ [some ⟨v.cells, true, 0⟩]) :=
  os_step fun ι a w hi hn hr => by
    have hv : RV ι v (a.eval x) := hr x (by simp [ho, Op.operands]) _ hx
    have hz := hv.cells
    have hl := hz.length
    refine ⟨_, ptv ⟨w.heap.size, 0, (a.eval x).cells.size, 0⟩ 0, _, ?_, ?_, step_new (esz := 0) (t := t) (arr := (a.eval x).cells) (cs := v.cells) hi hn (w1 := w) rfl rfl rfl rfl (by rw [hl]; simp) hz.get_some⟩
    · simp [execOp, ho, Instr.box, newVar, newRow, ptv]
    · exact ⟨_, upd_same _ _ _, rfl⟩

/-- Cells laid over others. -/
def lput {α : Type} (cs : List α) (off : Nat) (vs : List α) : List α := cs.take off ++ vs ++ cs.drop (off + vs.length)
theorem lput_length {α : Type} {cs : List α} {off : Nat} {vs : List α} (h : off + vs.length ≤ cs.length) : (lput cs off vs).length = cs.length := by
  simp [lput]; omega
theorem lput_get {α : Type} {cs : List α} {off : Nat} {vs : List α} (h : off + vs.length ≤ cs.length) (j : Nat) : (lput cs off vs)[j]? = if j < off then cs[j]? else if j < off + vs.length then vs[j - off]? else cs[j]? := by
  unfold lput
  have ht : (cs.take off).length = off := by simp; omega
  by_cases h1 : j < off
  · rw [if_pos h1, List.append_assoc, List.getElem?_append_left (by omega), List.getElem?_take, if_pos h1]
  · rw [if_neg h1, List.append_assoc, List.getElem?_append_right (by omega), ht]
    by_cases h2 : j < off + vs.length
    · rw [if_pos h2, List.getElem?_append_left (by omega)]
    · rw [if_neg h2, List.getElem?_append_right (by omega), List.getElem?_drop]
      congr 1
      omega

theorem setCells_row (b : Nat) (t : TypeId) (fz : Nat × Nat) : ∀ (vs : List Value) (o : Nat) (cur : Array Value) (w : World), w.heap[b]? = some (.cells cur t fz) → o + vs.length ≤ cur.size → w.setCells b o vs = w.setRow b (cur.toList.take o ++ vs ++ cur.toList.drop (o + vs.length)).toArray
  | [], o, cur, w, hg, _ => by
    have := setRow_self w b cur t fz hg
    simpa [World.setCells] using this.symm
  | v :: r, o, cur, w, hg, hl => by
    simp only [List.length_cons] at hl
    rw [World.setCells, setCell_eq_setRow w b o cur t fz v hg, setCells_row b t fz r (o + 1) _ _ (setRow_heap w b cur _ t _ hg) (by simp; omega), setRow_setRow]
    congr 2
    have e := list_seg_step cur.toList o v r (by simp; omega)
    simpa [Array.toList_setIfInBounds, Nat.add_assoc] using e
theorem run_store_row (P : Program) {b o : Nat} {t : TypeId} {fz : Nat × Nat} {vs : List Value} {cur : Array Value} {w : World} (hg : w.heap[b]? = some (.cells cur t fz)) (hl : o + vs.length ≤ cur.size) (hz : fz = (0, 0) ∨ cur.size ≤ fz.1) (h1 : ∀ v ∈ vs, v.oneCell' = true) :
    (storeCells ⟨b, o, none⟩ vs).run P w = .ok () (w.setRow b (cur.toList.take o ++ vs ++ cur.toList.drop (o + vs.length)).toArray) := by
  have := run_storeCells_cells (P := P) b o vs 0 w (fun j hj => by simp only [World.cell?, hg]; simp; omega) (fun j hj => by
    simp only [World.frozen?, hg]
    obtain ⟨lo, hi⟩ := fz
    rcases hz with hz | hz
    · cases hz; simp
    · simp only [Bool.and_eq_false_iff, decide_eq_false_iff_not]; left; simp only at hz; omega) h1
  rw [this, Nat.add_zero, setCells_row b t fz vs o cur w hg hl]
theorem step_store {ι : Inj} {w : World} (hi : Inv X ι H w) (hn : ∀ n, H.length ≤ n → ι (.l n) = none) {n off : Nat} {k : Blk} {L : Loc} (hL : ι (.l n) = some L) (hk : hget X H (.l n) = some k) (hok : k.own = true) {cs : List AC} {vs : List Value} (hv : A2 (RC ι) cs vs)
    (hle : off + cs.length ≤ k.cells.length) : ∃ w', (storeCells ⟨L.blk, L.off + off, none⟩ vs).run X.P w = .ok () w' ∧ Step X ι H w ι (H.set n (some { k with cells := lput k.cells off cs })) w' := by
  obtain ⟨arr, t, fr, h1, h2, h3, h4, h5, h6⟩ := hi.blk _ L k hL hk
  have hz := h5 hok
  have hlen := hv.length
  have hfit : L.off + off + vs.length ≤ arr.size := by omega
  refine ⟨_, run_store_row X.P h1 (by omega) (hz.imp_right (·.2)) hv.one, ?_⟩
  refine step_set hi hn hL hk hok h1 ?_ h2 (by simp only [lput_length hle]; exact h3) h4 hz ?_
  · simp; omega
  · intro j c hj
    have e : ∀ m : Nat, (arr.toList.take (L.off + off) ++ vs ++ arr.toList.drop (L.off + off + vs.length)).toArray[m]? = (lput arr.toList (L.off + off) vs)[m]? := fun m => by simp [lput]
    rw [e, lput_get (by simpa using hfit)]
    rw [lput_get hle] at hj
    by_cases c1 : j < off
    · rw [if_pos c1] at hj
      rw [if_pos (by omega)]
      simpa using h6 j c hj
    · rw [if_neg c1] at hj
      rw [if_neg (by omega)]
      by_cases c2 : j < off + cs.length
      · rw [if_pos c2] at hj
        rw [if_pos (by omega)]
        obtain ⟨v, a1, a2⟩ := hv.get _ c hj
        exact ⟨v, by rw [← a1]; congr 1; omega, a2⟩
      · rw [if_neg c2] at hj
        rw [if_neg (by omega)]
        simpa using h6 j c hj

theorem r_store {t : Nat} {x y : Operand} {d : TD} {n off : Nat} {v : AV} {k : Blk} (ho : o.op = .store t x y) (ht : X.ty t = some d) (hx : opv X E x = some (.v (.c (.pt (.l n) off)))) (hy : opv X E y = some (.v v)) (hk : hget X H (.l n) = some k) (hok : k.own = true)
    (hs : v.cells.length = d.size) (hle : off + v.cells.length ≤ k.cells.length) : OS X o E H none (H.set n (some { k with cells := lput k.cells off v.cells })) :=
  os_skip fun ι a w hi hn hr => by
    obtain ⟨L, h1, h2⟩ := hr x (by simp [ho, Op.operands]) _ hx
    have hv : RV ι v (a.eval y) := hr y (by simp [ho, Op.operands]) _ hy
    obtain ⟨ti, zv, hi1, hi2, _⟩ := ty_info ht
    obtain ⟨w', h3, h4⟩ := step_store hi hn h1 hk hok hv.cells hle
    refine ⟨ι, w', ?_, h4⟩
    have hsz : (a.eval y).cells.size = ti.size := by
      have := hv.cells.length
      simp only [Array.length_toList] at this
      omega
    simp [execOp, ho, h2, ptv, Instr.storeAt, Instr.sureAddr, storeVar, sizeOf, typeInfo, hi1, hsz, h3]

/-! ## Literals -/

/-- Operands, one by one. -/
def opvs (X : Cx) (E : Env) : List Operand → Option (List AV)
  | [] => some []
  | x :: xs => match opv X E x, opvs X E xs with
    | some (.v v), some vs => some (v :: vs)
    | _, _ => none
theorem opvs_sound {ι : Inj} {a : Act} : ∀ {xs : List Operand} {vs : List AV}, opvs X E xs = some vs → (∀ x ∈ xs, ∀ v, opv X E x = some v → RT ι v (a.eval x)) → A2 (RV ι) vs (xs.map a.eval)
  | [], vs, h, _ => by cases h; exact .nil
  | x :: xs, vs, h, hr => by
    simp only [opvs] at h
    split at h
    · rename_i v vs' h1 h2
      cases h
      exact .cons (hr x (by simp) _ h1) (opvs_sound h2 fun y hy => hr y (by simp [hy]))
    · cases h

theorem foldl_set (vs : List Value) : ∀ (off k : Nat) (arr : Array Value), off + k + vs.length ≤ arr.size →
    ((vs.zipIdx k).foldl (fun cs (p : Value × Nat) => cs.setIfInBounds (off + p.2) p.1) arr).toList = lput arr.toList (off + k) vs := by
  induction vs with
  | nil => intro off k arr h; simp [lput]
  | cons v vs ih =>
    intro off k arr h
    simp only [List.zipIdx_cons, List.foldl_cons]
    have hsz : (arr.setIfInBounds (off + k) v).size = arr.size := by simp
    have hl : off + (k + 1) + vs.length ≤ (arr.setIfInBounds (off + k) v).size := by simp at h ⊢; omega
    rw [ih off (k + 1) _ hl]
    simp only [List.length_cons] at h
    rw [show off + (k + 1) = (off + k) + 1 by omega] at hl ⊢
    generalize off + k = q at *
    apply List.ext_getElem?
    intro j
    rw [lput_get (by simpa using hl), lput_get (by simp; omega)]
    simp only [Array.toList_setIfInBounds, List.getElem?_set, List.length_cons]
    by_cases c1 : j < q
    · rw [if_pos (by omega), if_neg (by omega), if_pos c1]
    · by_cases c2 : j = q
      · subst c2
        have this : j < arr.toList.length := by simp; omega
        rw [if_pos (show j < j + 1 by omega), if_pos rfl, if_pos this, if_neg (show ¬ j < j by omega), if_pos (show j < j + (vs.length + 1) by omega)]
        simp
      · by_cases c3 : j < q + 1 + vs.length
        · rw [if_neg (by omega), if_pos c3, if_neg (by omega), if_pos (by omega)]
          rw [show j - q = (j - (q + 1)) + 1 by omega]
          simp
        · rw [if_neg (by omega), if_neg c3, if_neg (by omega), if_neg (by omega), if_neg (by omega)]

/-- Parts laid into cells. -/
def fillA (place : Nat → Option (Nat × Nat)) (cells : List AC) : List (Nat × AV) → Option (List AC)
  | [] => some cells
  | (i, v) :: rest => match place i with
    | none => none
    | some (off, size) => if v.cells.length = size ∧ off + size ≤ cells.length then fillA place (lput cells off v.cells) rest else none

theorem A2.lput {ι : Inj} {cs xs : List AC} {vs ys : List Value} (h : A2 (RC ι) cs vs) (h' : A2 (RC ι) xs ys) {off : Nat} (hle : off + xs.length ≤ cs.length) : A2 (RC ι) (lput cs off xs) (lput vs off ys) := by
  have l1 := h.length
  have l2 := h'.length
  refine A2.of_get _ _ (by rw [lput_length hle, lput_length (by omega)]; exact l1) ?_
  intro i x y hx hy
  rw [lput_get hle] at hx
  rw [lput_get (by omega)] at hy
  by_cases c1 : i < off
  · rw [if_pos c1] at hx hy
    obtain ⟨z, h1, h2⟩ := h.get i x hx
    rw [h1] at hy; cases hy; exact h2
  · rw [if_neg c1] at hx hy
    rw [← l2] at hy
    by_cases c2 : i < off + xs.length
    · rw [if_pos c2] at hx hy
      obtain ⟨z, h1, h2⟩ := h'.get _ x hx
      rw [h1] at hy; cases hy; exact h2
    · rw [if_neg c2] at hx hy
      obtain ⟨z, h1, h2⟩ := h.get i x hx
      rw [h1] at hy; cases hy; exact h2

theorem fill_sound {ι : Inj} (place : Nat → Option (Nat × Nat)) : ∀ (is : List Nat) (vs : List AV) (ys : List Value), A2 (RV ι) vs ys → ∀ (cs : List AC) (arr : Array Value), A2 (RC ι) cs arr.toList → ∀ out, fillA place cs (is.zip vs) = some out →
    ∃ arr', Instr.fill place arr (is.zip ys) = some arr' ∧ A2 (RC ι) out arr'.toList
  | [], vs, ys, _, cs, arr, h, out, ho => by cases vs <;> cases ys <;> (simp [fillA] at ho; subst ho; exact ⟨arr, rfl, h⟩)
  | i :: is, [], _, .nil, cs, arr, h, out, ho => by simp [fillA] at ho; subst ho; exact ⟨arr, rfl, h⟩
  | i :: is, v :: vs, y :: ys, .cons hv hr, cs, arr, h, out, ho => by
    simp only [List.zip_cons_cons, fillA] at ho
    split at ho
    · cases ho
    · rename_i off size hp
      split at ho
      · rename_i hc
        obtain ⟨hc1, hc2⟩ := hc
        have l1 := h.length
        have l2 := hv.cells.length
        simp only [Array.length_toList] at l1 l2
        have hfit : off + y.cells.toList.length ≤ arr.size := by simp; omega
        have hfs := foldl_set y.cells.toList off 0 arr (by omega)
        have h2 := A2.lput h hv.cells (off := off) (by omega)
        obtain ⟨arr', h3, h4⟩ := fill_sound place is vs ys hr (lput cs off v.cells) ((y.cells.zipIdx.foldl (fun cs (p : Value × Nat) => cs.setIfInBounds (off + p.2) p.1) arr)) (by
          rw [← Array.foldl_toList, Array.toList_zipIdx, hfs]
          exact h2) out ho
        refine ⟨arr', ?_, h4⟩
        simp only [List.zip_cons_cons, Instr.fill, hp]
        rw [if_neg (by simp; omega)]
        exact h3
      · cases ho

/-- A struct's literal. -/
theorem r_build {t : Nat} {parts : List (Nat × Operand)} {fs : List (Nat × Nat)} {s1 b1 : Nat} {zz : List ZC} {vs : List AV} {cs : List AC} (ho : o.op = .build t parts.toArray) (ht : X.ty t = some ⟨.struct fs, s1, b1, zz⟩)
    (hv : opvs X E (parts.map (·.2)) = some vs) (hf : fillA (fun i => fs[i]?) (zz.map ZC.ac) ((parts.map (·.1)).zip vs) = some cs) (H : Heap) : OS X o E H (some (.v (.ag cs))) H :=
  os_val fun ι a w hi hr => by
    obtain ⟨ti, zv, h1, h2, h3, h4, h5, h6⟩ := ty_info ht
    obtain ⟨fl, hu, hok⟩ := ty_struct ht
    have hvs := opvs_sound (ι := ι) (a := a) hv (fun x hx v hxv => hr x (by
      simp only [ho, Op.operands]
      simpa using hx) v hxv)
    obtain ⟨arr', h7, h8⟩ := fill_sound (fun i => fs[i]?) _ vs _ hvs _ zv.cells (zeqs_rc h5) cs hf
    have hmap : ∀ (fl : List Field) (fs : List (Nat × Nat)), fsOk X.P fl fs = true → fl.mapM (fun f => (X.P.info? f.type).map fun i => (f.offset, i.size)) = some fs := by
      intro fl
      induction fl with
      | nil => intro fs h; cases fs with
        | nil => rfl
        | cons => simp [fsOk] at h
      | cons f fl ih =>
        intro fs h
        cases fs with
        | nil => simp [fsOk] at h
        | cons q qs =>
          simp only [fsOk, Bool.and_eq_true, beq_iff_eq] at h
          obtain ⟨⟨ha, hb⟩, hc⟩ := h
          split at hb
          · rename_i i hi'
            simp only [Bool.and_eq_true, beq_iff_eq] at hb
            simp [List.mapM_cons, hi', ih qs hc, ha, hb.1]
          · cases hb
    refine ⟨.agg arr', ?_, arr'.toList, by simp, h8⟩
    have hb : X.P.built t (parts.map fun p => (p.1, a.eval p.2)) = some arr' := by
      unfold Program.built
      simp only [h1, hu, h4, hmap fl.toList fs hok]
      rw [← h7]
      congr 1
      · funext i; simp
      · clear hf hv hvs h7 ho
        induction parts with
        | nil => rfl
        | cons p ps ih => simp [ih]
    have := run_build (P := X.P) w t (parts.map fun p => (p.1, a.eval p.2)).toArray arr' (by simpa using hb)
    simp only [execOp, ho]
    simp [this]
end
end Go.Aw
