/- What a law is called with, read as abstract values in memory that is nobody's own. -/
import Derived.Test.YtfdopoijhjbamaaDoorAwU
import Derived.SizedLaws
import Derived.ChangeSlices
namespace Go.Aw
open Go.RowKit
set_option linter.unusedVariables false
set_option linter.unusedSimpArgs false

section
variable {X : Cx} {H : Heap} {w : World} {H0 : Type} {en : TypeId × Value → H0} {held : Bool}

theorem inv_start (hK : X.K = []) (hG : ∀ n, X.G n = none) (w : World) : Inv X (fun _ => none) [] w where
  fix p hp := by rw [hK] at hp; cases hp
  glo n := by rw [hG n]; rfl
  blk b L k h := by cases h
  ownK b L k h := by cases h
  sep b b' L L' k k' h := by cases h

/-- Memory that came in. -/
structure Inp (X : Cx) (H : Heap) (ι : Inj) (w : World) : Prop where
  inv : Inv X ι H w
  nil : ∀ n, H.length ≤ n → ι (.l n) = none
  no : ∀ b k, hget X H b = some k → k.own = false

theorem Inp.start (hK : X.K = []) (hG : ∀ n, X.G n = none) (w : World) : Inp X [] (fun _ => none) w :=
  ⟨inv_start hK hG w, fun _ _ => rfl, fun b k h => by
    cases b with
    | l n => simp [hget] at h
    | g n => simp [hget, hG] at h⟩

theorem Inp.add {ι : Inj} (h : Inp X H ι w) {L : Loc} {cells : List AC} {arr : Array Value} {t : TypeId} {fr : Nat × Nat} (hw : w.heap[L.blk]? = some (.cells arr t fr)) (hsz : arr.size = L.size) (hle : L.off + cells.length ≤ L.size)
    (hc : ∀ (j : Nat) c, cells[j]? = some c → ∃ v, arr[L.off + j]? = some v ∧ RC ι c v) : Inp X (H ++ [some ⟨cells, false, L.esz⟩]) (upd ι H.length L) w := by
  have hnew : ι (.l H.length) = none := h.nil _ (Nat.le_refl _)
  have keeps := upd_keeps (L := L) hnew
  have no : ∀ b k, hget X (H ++ [some ⟨cells, false, L.esz⟩]) b = some k → k.own = false := by
    intro b k hk
    by_cases e : b = .l H.length
    · subst e; rw [hget_new] at hk; cases hk; rfl
    · exact h.no b k (hget_beyond hk e)
  refine ⟨⟨h.inv.fix, fun n => ?_, fun b M k hb hk => ?_, fun b M k hb hk ho => ?_, fun b b' M M' k k' hb hb' hk hk' ho => ?_⟩, fun n hn => ?_, no⟩
  · rw [upd_ne _ _ _ (by simp)]; exact h.inv.glo n
  · by_cases e : b = .l H.length
    · subst e
      rw [hget_new] at hk; cases hk
      rw [upd_same] at hb; cases hb
      refine ⟨arr, t, fr, hw, hsz, hle, rfl, (fun ho => by cases ho), fun j c hj => ?_⟩
      obtain ⟨v, h1, h2⟩ := hc j c hj
      exact ⟨v, h1, h2.mono keeps⟩
    · rw [upd_ne _ _ _ e] at hb
      obtain ⟨arr', t', fr', h1, h2, h3, h4, h5, h6⟩ := h.inv.blk b M k hb (hget_beyond hk e)
      exact ⟨arr', t', fr', h1, h2, h3, h4, h5, fun j c hj => let ⟨v, a, b⟩ := h6 j c hj; ⟨v, a, b.mono keeps⟩⟩
  · rw [no b k hk] at ho; cases ho
  · rw [no b k hk] at ho; cases ho
  · rw [upd_ne _ _ _ (by intro e; cases e; simp at hn; omega)]
    exact h.nil n (by simp at hn; omega)
theorem Inp.pad {ι : Inj} (h : Inp X H ι w) (cells : List AC) (z : Nat) : Inp X (H ++ [some ⟨cells, false, z⟩]) ι w := by
  have hnew : ι (.l H.length) = none := h.nil _ (Nat.le_refl _)
  have no : ∀ b k, hget X (H ++ [some ⟨cells, false, z⟩]) b = some k → k.own = false := by
    intro b k hk
    by_cases e : b = .l H.length
    · subst e; rw [hget_new] at hk; cases hk; rfl
    · exact h.no b k (hget_beyond hk e)
  refine ⟨⟨h.inv.fix, h.inv.glo, fun b M k hb hk => ?_, fun b M k hb hk ho => ?_, fun b b' M M' k k' hb hb' hk hk' ho => ?_⟩, fun n hn => ?_, no⟩
  · by_cases e : b = .l H.length
    · subst e; rw [hnew] at hb; cases hb
    · exact h.inv.blk b M k hb (hget_beyond hk e)
  · rw [no b k hk] at ho; cases ho
  · rw [no b k hk] at ho; cases ho
  · exact h.nil n (by simp at hn; omega)

theorem weightsAll_mem {P : Program} {e : TypeId} : ∀ {ds : List (DataW H0)} {d : DataW H0}, d ∈ ds → ∀ m ∈ d.weights P e, m ∈ DataW.weightsAll P e ds
  | d0 :: ds, d, h, m, hm => by
    simp only [DataW.weightsAll, List.mem_append]
    rcases List.mem_cons.1 h with rfl | h
    · exact .inl hm
    · exact .inr (weightsAll_mem h m hm)

theorem cells?_at {b n : Nat} {a : Addr} {cs : List Value} (h : w.cells? b a n = some cs) : cs.length = n ∧ ∀ i, i < n → w.cell? (a.add i) = cs[i]? := by
  unfold World.cells? at h
  split at h
  · refine ⟨by simpa using mapM_some_length h, fun i hi => ?_⟩
    have := mapM_some_get h i i (by simp [hi])
    exact this
  · cases h
theorem add_add (a : Addr) (i j : Nat) : (a.add i).add j = a.add (i + j) := by
  unfold Addr.add
  by_cases h1 : i = 0 <;> by_cases h2 : j = 0 <;> simp_all [Nat.add_assoc]
theorem cell?_block {a : Addr} {v : Value} (h : w.cell? a = some v) : ∃ arr t fr, w.heap[a.block]? = some (.cells arr t fr) ∧ a.spot = none ∧ arr[a.off]? = some v := by
  unfold World.cell? at h
  split at h
  · rename_i c t fr hb
    split at h
    · cases h
    · rename_i hs
      refine ⟨c, t, fr, hb, ?_, h⟩
      cases hsp : a.spot with
      | none => rfl
      | some x => rw [hsp] at hs; simp at hs
  · cases h

/-- A slice that came in reads as a list. -/
theorem Inp.slice {α : Type} {enc : α → List AC} {sz t e fuel : Nat} {Q : α → Prop} {ι : Inj} {cs : List Value} {x : DataW H0 × List MemPlace} (hi : Inp X H ι w) (hs : ∀ x, (enc x).length = sz) (hp : 0 < sz) (ht : X.P.underlying t = some (.slice e)) (hc : X.P.cellsOf e = sz)
    (hel : ∀ cs y n, cs.length = sz → DataW.trod en X.P w 0 (fun _ => true) held n e cs = some y → (∀ m ∈ y.1.weights X.P e, m ≤ reachBytes) → ∃ x : α, (∀ ι, A2 (RC ι) (enc x) cs) ∧ Q x)
    (hwt : ∀ m ∈ x.1.weights X.P t, m ≤ reachBytes) (h : DataW.trod en X.P w 0 (fun _ => true) held fuel t cs = some x) :
    ∃ ι' ac v xs, cs = [v] ∧ Inp X (H ++ [some ⟨xs.flatMap enc, false, sz⟩]) ι' w ∧ (∀ b L, ι b = some L → ι' b = some L) ∧ RC ι' ac v ∧ Rd X (H ++ [some ⟨xs.flatMap enc, false, sz⟩]) sz enc ac xs ∧ (∀ x ∈ xs, Q x) ∧ xs.length * X.P.bytesOf e ≤ reachBytes := by
  rcases DataW.trod_slice ht h with ⟨rfl, rfl⟩ | ⟨a, len, cap, elems, rest, n, _, rfl, rfl, _, hl, hm, hlen, hel', hsp, _⟩
  · exact ⟨ι, .ns, _, [], rfl, hi.pad _ _, fun _ _ h => h, rfl, rfl, by simp, by simp⟩
  · have hwl : len * X.P.bytesOf e ≤ reachBytes := by
      have := hwt ((elems.length + rest.length) * X.P.bytesOf e) (by simp only [DataW.weights, ht]; simp)
      rw [hlen] at this
      exact Nat.le_trans (Nat.mul_le_mul_right _ (by omega)) this
    by_cases h0 : len = 0
    · subst h0
      exact ⟨ι, .em, _, [], rfl, hi.pad _ _, fun _ _ h => h, ⟨_, _, rfl⟩, rfl, by simp, by simp⟩
    · obtain ⟨hrl, hr⟩ := hsp rfl
      -- each place's cells
      have each : ∀ i, i < cap → ∃ cs y, w.cells? 0 (a.add (i * sz)) sz = some cs ∧ DataW.trod en X.P w 0 (fun _ => true) held n e cs = some y ∧ (i < len → y ∈ elems) := by
        intro i hi
        by_cases h1 : i < len
        · have := hel' i h1
          rw [hc, List.getElem?_eq_getElem (by omega), Option.bind_eq_some_iff] at this
          obtain ⟨cs, h2, h3⟩ := this
          exact ⟨cs, _, h2, h3, fun _ => List.getElem_mem _⟩
        · have := hr (i - len) (by omega)
          rw [show len + (i - len) = i by omega, hc, List.getElem?_eq_getElem (by omega), Option.bind_eq_some_iff] at this
          obtain ⟨cs, h2, h3⟩ := this
          exact ⟨cs, _, h2, h3, fun h => by omega⟩
      have cell : ∀ i r, i < cap → r < sz → ∃ v, w.cell? (a.add (i * sz + r)) = some v := by
        intro i r hi hr
        obtain ⟨cs, y, h1, _, _⟩ := each i hi
        obtain ⟨h2, h3⟩ := cells?_at h1
        have := h3 r hr
        rw [add_add] at this
        exact ⟨cs[r], by rw [this, List.getElem?_eq_getElem (by omega)]⟩
      obtain ⟨v0, hv0⟩ := cell 0 0 (by omega) hp
      obtain ⟨arr, t0, fr, hb, hspot, _⟩ := cell?_block (a := a) (by simpa [Addr.add] using hv0)
      obtain ⟨blk, off, spot⟩ := a
      simp only at hspot hb
      subst hspot
      have at_ : ∀ i r, i < cap → r < sz → w.cell? ((⟨blk, off, none⟩ : Addr).add (i * sz + r)) = arr[off + (i * sz + r)]? := by
        intro i r _ _
        rw [add_addr]
        simp [World.cell?, hb]
      have hcap : off + cap * sz ≤ arr.size := by
        obtain ⟨v, hv⟩ := cell (cap - 1) (sz - 1) (by omega) (by omega)
        rw [at_ _ _ (by omega) (by omega)] at hv
        have := (Array.getElem?_eq_some_iff.1 hv).1
        have e1 : cap * sz = (cap - 1) * sz + sz := by
          obtain ⟨q, rfl⟩ : ∃ q, cap = q + 1 := ⟨cap - 1, by omega⟩
          rw [Nat.add_mul, Nat.one_mul]; rfl
        omega
      have dec : ∀ i, i < len → ∃ x : α, (∀ r c, (enc x)[r]? = some c → ∃ v, arr[off + (i * sz + r)]? = some v ∧ ∀ ι, RC ι c v) ∧ Q x := by
        intro i hi
        obtain ⟨cs, y, h1, h2, h3⟩ := each i (by omega)
        obtain ⟨h4, h5⟩ := cells?_at h1
        obtain ⟨x, hx, hQ⟩ := hel cs y n h4 h2 (fun m hm => hwt m (by
          simp only [DataW.weights, ht, List.mem_cons, List.mem_append]
          exact .inr (.inl (weightsAll_mem (List.mem_map_of_mem (h3 hi)) m hm))))
        refine ⟨x, fun r c hr => ?_, hQ⟩
        have hr' : r < sz := by rw [← hs x]; exact (List.getElem?_eq_some_iff.1 hr).1
        obtain ⟨v, hv, _⟩ := (hx ι).get r c hr
        refine ⟨v, ?_, fun ι' => ?_⟩
        · have := h5 r hr'
          rw [add_add, at_ _ _ (by omega) hr', hv] at this
          exact this
        · obtain ⟨v', hv', h'⟩ := (hx ι').get r c hr
          rw [hv] at hv'; cases hv'; exact h'
      let xs : List α := List.ofFn fun i : _root_.Fin len => (dec i.1 i.2).choose
      have hxs : ∀ i (hi : i < len), xs[i]? = some (dec i hi).choose := fun i hi => by simp [xs, hi]
      have hxl : xs.length = len := by simp [xs]
      have hfl : (xs.flatMap enc).length = len * sz := by rw [flatMap_len hs, hxl]
      have hmul : len * sz ≤ cap * sz := Nat.mul_le_mul_right _ hl
      refine ⟨upd ι H.length ⟨blk, off, arr.size, sz⟩, .sl (.l H.length) 0 len len false, _, xs, rfl, hi.add (L := ⟨blk, off, arr.size, sz⟩) hb rfl (by rw [hfl]; simp only; omega) ?_, upd_keeps (hi.nil _ (Nat.le_refl _)), ?_, ⟨hxl.symm, ?_, hs⟩, ?_, ?_⟩
      · intro j c hj
        have hlt := (List.getElem?_eq_some_iff.1 hj).1
        rw [hfl] at hlt
        have hq : j / sz < len := Nat.div_lt_of_lt_mul (by rw [Nat.mul_comm]; exact hlt)
        have hdm : j / sz * sz + j % sz = j := by rw [Nat.mul_comm]; exact Nat.div_add_mod j sz
        have hfa := flatMap_at hs xs (j / sz) _ (hxs _ hq)
        have hrl := Nat.mod_lt j hp
        have he : (enc (dec (j / sz) hq).choose)[j % sz]? = some c := by
          rw [← hfa, List.getElem?_take, if_pos hrl, List.getElem?_drop, hdm]; exact hj
        obtain ⟨v, h1, h2⟩ := (dec (j / sz) hq).choose_spec.1 _ _ he
        rw [hdm] at h1
        exact ⟨v, h1, h2 ι⟩
      · exact ⟨_, cap, upd_same _ _ _, rfl, hl, hl, (fun h => by cases h), hm, by simpa using hcap⟩
      · unfold ld
        rw [hget_new]
        simp only
        rw [if_pos (by rw [hfl]; omega), List.drop_zero, ← hfl, List.take_length]
      · intro x hx
        obtain ⟨i, hi, rfl⟩ := List.mem_iff_getElem.1 hx
        have := hxs i (by omega)
        rw [List.getElem?_eq_getElem hi] at this
        rw [Option.some.inj this]
        exact (dec i (by omega)).choose_spec.2
      · rw [hxl]; exact hwl

/-- A contract, called with what came in. -/
theorem ACalls.law {f : FuncId} {args : List AV} {ι : Inj} {H' : Heap} {vs : Array Value} (h : ACalls X f args H (Vb true) H') (hi : Inp X H ι w) (ha : A2 (RV ι) args vs.toList) :
    Calls X.P f vs w fun e w' => e = .returned (.bool true) ∧ Below w.heap.size w w' := by
  refine (h ι w vs hi.inv hi.nil ha).mono ?_
  rintro e w' ⟨ι', r, rfl, hr, hst⟩
  obtain ⟨rfl, _⟩ : r = .bool true ∧ _ := hr
  refine ⟨rfl, hst.fr.os, hst.fr.tape, hst.fr.output, hst.fr.size, fun k hk => hst.fr.keep k hk ?_⟩
  rintro ⟨n, L, b, _, h2, h3, _⟩
  rw [hi.no _ _ h2] at h3; cases h3

/-- What an integer's place reads as. -/
theorem trod_i64 {e : Nat} (he : X.P.underlying e = some (.int .i64)) : ∀ (cs : List Value) (y : DataW H0 × List MemPlace) n, cs.length = 1 → DataW.trod en X.P w 0 (fun _ => true) held n e cs = some y → (∀ m ∈ y.1.weights X.P e, m ≤ reachBytes) →
    ∃ x : Int, (∀ ι, A2 (RC ι) [.s (.int .i64 x)] cs) ∧ -9223372036854775808 ≤ x ∧ x ≤ 9223372036854775807 := by
  intro cs y n _ h _
  obtain ⟨m, rfl, rfl, hw⟩ := DataW.trod_int he h
  refine ⟨m, fun ι => .cons ⟨rfl, rfl⟩ .nil, ?_⟩
  simp only [Lit.wf, Bool.and_eq_true, decide_eq_true_eq] at hw
  exact hw
/-- A struct's parts. -/
theorem trod_parts {t fuel : Nat} {fs : Array Field} {cs : List Value} {x : DataW H0 × List MemPlace} (ht : X.P.underlying t = some (.struct fs)) (hwt : ∀ m ∈ x.1.weights X.P t, m ≤ reachBytes) (h : DataW.trod en X.P w 0 (fun _ => true) held fuel t cs = some x) :
    cs.length = X.P.cellsOf t ∧ ∀ (i : Nat) (f : Field), fs[i]? = some f → ∃ y n, DataW.trod en X.P w 0 (fun _ => true) held n f.type ((cs.drop f.offset).take (X.P.cellsOf f.type)) = some y ∧ ∀ m ∈ y.1.weights X.P f.type, m ≤ reachBytes := by
  obtain ⟨xs, n, rfl, rfl, hl, hsz, hf⟩ := DataW.trod_struct ht h
  refine ⟨hl, fun i f hi => ?_⟩
  have hlt := (Array.getElem?_eq_some_iff.1 hi).1
  have hy : xs[i]? = some xs[i] := List.getElem?_eq_getElem (by omega)
  refine ⟨xs[i], n, (hf i f hi).trans hy, fun m hm => hwt m ?_⟩
  simp only [DataW.weights, ht]
  exact DataW.weights_mem_each (j := i) (by rw [List.getElem?_map, Array.getElem?_toList, hi]; rfl) (by rw [List.getElem?_map, hy]; rfl) m hm
theorem Inp.ints {t e fuel : Nat} {ι : Inj} {cs : List Value} {x : DataW H0 × List MemPlace} (hi : Inp X H ι w) (ht : X.P.underlying t = some (.slice e)) (he : X.P.underlying e = some (.int .i64)) (hc : X.P.cellsOf e = 1) (hb : X.P.bytesOf e = 8)
    (hwt : ∀ m ∈ x.1.weights X.P t, m ≤ reachBytes) (h : DataW.trod en X.P w 0 (fun _ => true) held fuel t cs = some x) :
    ∃ ι' ac v xs, cs = [v] ∧ Inp X (H ++ [some ⟨xs.flatMap fun x => [.s (.int .i64 x)], false, 1⟩]) ι' w ∧ (∀ b L, ι b = some L → ι' b = some L) ∧ RC ι' ac v ∧ Rd X (H ++ [some ⟨xs.flatMap fun x => [.s (.int .i64 x)], false, 1⟩]) 1 (fun x : Int => [.s (.int .i64 x)]) ac xs ∧ (∀ x ∈ xs, -9223372036854775808 ≤ x ∧ x ≤ 9223372036854775807) ∧ xs.length ≤ 2 ^ 44 := by
  obtain ⟨ι', ac, v, xs, h1, h2, h3, h4, h5, h6, h7⟩ := hi.slice (enc := fun x : Int => [.s (.int .i64 x)]) (fun _ => rfl) (by decide) ht hc (trod_i64 he) hwt h
  exact ⟨ι', ac, v, xs, h1, h2, h3, h4, h5, h6, by rw [hb] at h7; unfold reachBytes at h7; omega⟩
end
end Go.Aw
