/- Appends to rows of one's own; cuts; comparisons with nil; calls. -/
import Derived.Test.YtfdopoijhjbamaaDoorAwG
namespace Go.Aw
open Go.RowKit
set_option linter.unusedVariables false
set_option linter.unusedSimpArgs false

theorem Step.trans {X : Cx} {ι ι1 ι2 : Inj} {H H1 H2 : Heap} {w w1 w2 : World} (h : Step X ι H w ι1 H1 w1) (h' : Step X ι1 H1 w1 ι2 H2 w2) : Step X ι H w ι2 H2 w2 := by
  have own : ∀ β, OwnAt X ι1 H1 β → w.heap.size ≤ β ∨ OwnAt X ι H β := by
    rintro β ⟨n, L, k, a1, a2, a3, rfl⟩
    by_cases hn : n < H.length
    · rw [h.agree (.l n) (fun m e => by cases e; exact .inl hn)] at a1
      obtain ⟨k0, b1, b2⟩ := h.le.own n k hn a2 a3
      exact .inr ⟨n, L, k0, a1, b1, b2, rfl⟩
    · exact h.new n L (by omega) (hget_lt a2) a1
  refine ⟨h'.inv, h.le.trans h'.le, ?_, ?_, ?_⟩
  · intro b hb
    rw [h'.agree b (fun n e => ?_), h.agree b (fun n e => ?_)]
    · rcases hb n e with h1 | h1
      · exact .inl h1
      · exact .inr (Nat.le_trans h'.le.len h1)
    · rcases hb n e with h1 | h1
      · exact .inl (Nat.lt_of_lt_of_le h1 h.le.len)
      · exact .inr h1
  · intro n L h1 h2 hL
    by_cases hn : n < H1.length
    · rw [h'.agree (.l n) (fun m e => by cases e; exact .inl hn)] at hL
      exact h.new n L h1 hn hL
    · rcases h'.new n L (by omega) h2 hL with a | a
      · exact .inl (Nat.le_trans h.fr.size a)
      · exact own _ a
  · refine ⟨h'.fr.os.trans h.fr.os, h'.fr.tape.trans h.fr.tape, h'.fr.output.trans h.fr.output, Nat.le_trans h.fr.size h'.fr.size, fun β hβ hno => ?_⟩
    rw [h'.fr.keep β (Nat.lt_of_lt_of_le hβ h.fr.size) (fun ho => by
      rcases own β ho with a | a
      · omega
      · exact hno a)]
    exact h.fr.keep β hβ hno

section
variable {X : Cx} {H : Heap}
theorem hget_drop {n : Nat} {b : Bid} {k : Blk} (h : hget X (H.set n none) b = some k) : b ≠ .l n ∧ hget X H b = some k := by
  by_cases e : b = .l n
  · subst e
    by_cases hn : n < H.length
    · rw [hget_set_same hn] at h; cases h
    · have := hget_lt h
      simp at this
      omega
  · rw [hget_set_ne e] at h
    exact ⟨e, h⟩

/-- What a block holds is forgotten. -/
theorem step_drop {ι : Inj} {w : World} (hi : Inv X ι H w) (n : Nat) : Step X ι H w ι (H.set n none) w := by
  refine ⟨⟨hi.fix, hi.glo, ?_, ?_, ?_⟩, ⟨by simp, ?_⟩, fun _ _ => rfl, fun m M h1 h2 => by simp at h2; omega, Fr.refl _ _ _ _⟩
  · exact fun b L k hb hk => hi.blk b L k hb (hget_drop hk).2
  · exact fun b L k hb hk => hi.ownK b L k hb (hget_drop hk).2
  · exact fun b b' L L' k k' hb hb' hk hk' => hi.sep b b' L L' k k' hb hb' (hget_drop hk).2 (hget_drop hk').2
  · exact fun m k' hm hk ho => ⟨k', (hget_drop hk).2, ho⟩

/-- An own block is written and goes on under a new name. -/
theorem step_move {ι : Inj} {w : World} (hi : Inv X ι H w) (hn : ∀ n, H.length ≤ n → ι (.l n) = none) {n : Nat} {L : Loc} {k : Blk} (hL : ι (.l n) = some L) (hk : hget X H (.l n) = some k) (hok : k.own = true)
    {arr arr' : Array Value} {t : TypeId} {off : Nat} {cs : List AC} (hw : w.heap[L.blk]? = some (.cells arr t (0, 0))) (hs : arr'.size = arr.size) (hsz : arr.size = L.size) (hl : L.off + off + cs.length ≤ L.size)
    (hc : ∀ (j : Nat) c, cs[j]? = some c → ∃ v, arr'[L.off + off + j]? = some v ∧ RC ι c v) :
    Step X ι H w (upd ι H.length ⟨L.blk, L.off + off, L.size, L.esz⟩) (H.set n none ++ [some ⟨cs, true, L.esz⟩]) (w.setRow L.blk arr') := by
  have hlt := hget_lt hk
  have hnn : ι (.l H.length) = none := hn _ (Nat.le_refl _)
  have hlen : (H.set n none).length = H.length := by simp
  have hnew : (w.setRow L.blk arr').heap[L.blk]? = some (.cells arr' t (0, 0)) := setRow_heap w L.blk arr arr' t (0, 0) hw
  have hold : ∀ β, β ≠ L.blk → (w.setRow L.blk arr').heap[β]? = w.heap[β]? := fun β h => setRow_other w L.blk β arr' h
  have hsize : (w.setRow L.blk arr').heap.size = w.heap.size := by simp [World.setRow]
  have hgn : hget X (H.set n none ++ [some ⟨cs, true, L.esz⟩]) (.l H.length) = some ⟨cs, true, L.esz⟩ := by rw [← hlen]; exact hget_new
  have hgo : ∀ b kk, hget X (H.set n none ++ [some ⟨cs, true, L.esz⟩]) b = some kk → b ≠ .l H.length → b ≠ .l n ∧ hget X H b = some kk := fun b kk h e => hget_drop (hget_beyond h (by rw [hlen]; exact e))
  refine ⟨⟨?_, ?_, ?_, ?_, ?_⟩, ⟨by simp, ?_⟩, ?_, ?_, ⟨rfl, rfl, rfl, by rw [hsize]; exact Nat.le_refl _, ?_⟩⟩
  · intro p hp
    rw [hold _ (hi.ownK _ L k hL hk hok p hp)]
    exact hi.fix p hp
  · intro m; rw [upd_ne _ _ _ (by simp)]; exact hi.glo m
  · intro b M kk hb hkk
    by_cases e : b = .l H.length
    · subst e
      rw [upd_same] at hb
      rw [hgn] at hkk
      cases hb
      cases hkk
      refine ⟨arr', t, (0, 0), hnew, by rw [hs, hsz], hl, rfl, fun _ => .inl rfl, ?_⟩
      intro j c hj
      obtain ⟨v, a1, a2⟩ := hc j c hj
      exact ⟨v, a1, a2.mono (upd_keeps hnn)⟩
    · rw [upd_ne _ _ _ e] at hb
      obtain ⟨e2, hkk⟩ := hgo b kk hkk e
      obtain ⟨a1, t1, f1, h1, h2, h3, h4, h5, h6⟩ := hi.blk b M kk hb hkk
      refine ⟨a1, t1, f1, ?_, h2, h3, h4, h5, ?_⟩
      · rw [hold _ (fun e3 => e2 (hi.sep (.l n) b L M k kk hL hb hk hkk hok e3.symm).symm)]
        exact h1
      · intro j c hj
        obtain ⟨v, a3, a4⟩ := h6 j c hj
        exact ⟨v, a3, a4.mono (upd_keeps hnn)⟩
  · intro b M kk hb hkk hok' p hp
    by_cases e : b = .l H.length
    · subst e
      rw [upd_same] at hb
      cases hb
      exact hi.ownK _ L k hL hk hok p hp
    · rw [upd_ne _ _ _ e] at hb
      exact hi.ownK b M kk hb (hgo b kk hkk e).2 hok' p hp
  · intro b b' M M' kk kk' hb hb' hkk hkk' hok' heq
    by_cases e : b = .l H.length
    · subst e
      by_cases e' : b' = .l H.length
      · exact e'.symm
      · rw [upd_ne _ _ _ e'] at hb'
        rw [upd_same] at hb
        cases hb
        obtain ⟨e2, hkk'⟩ := hgo b' kk' hkk' e'
        exact absurd (hi.sep (.l n) b' L M' k kk' hL hb' hk hkk' hok heq).symm e2
    · rw [upd_ne _ _ _ e] at hb
      obtain ⟨e2, hkk⟩ := hgo b kk hkk e
      by_cases e' : b' = .l H.length
      · subst e'
        rw [upd_same] at hb'
        cases hb'
        exact absurd (hi.sep b (.l n) M L kk k hb hL hkk hk hok' heq) e2
      · rw [upd_ne _ _ _ e'] at hb'
        exact hi.sep b b' M M' kk kk' hb hb' hkk (hgo b' kk' hkk' e').2 hok' heq
  · intro m k' hm hkk hok'
    exact ⟨k', (hgo (.l m) k' hkk (by simp; omega)).2, hok'⟩
  · intro b hb
    rw [upd_ne]
    intro e
    have := hb H.length e
    simp at this
    omega
  · intro m M h1 h2 hM
    have : m = H.length := by simp at h2; omega
    subst this
    rw [upd_same] at hM
    cases hM
    exact .inr ⟨n, L, k, hL, hk, hok, rfl⟩
  · intro β hβ hno
    exact hold β (fun e => hno ⟨n, L, k, hL, hk, hok, e.symm⟩)

variable {o : Oper} {E : Env}

/-- An append that finds room in a row of cells. -/
theorem run_append_room' {P : Program} (w : World) (t ty e : TypeId) (i : TypeInfo) (ht : P.underlying t = some (.slice e)) (hi : P.info? e = some i) (g go : Nat) (t0 : TypeId) (sLen sCap : Nat) (cur : Array Value) (hg : w.heap[g]? = some (.cells cur t0 (0, 0)))
    (ao : Option Addr) (m c : Nat) (news : List Value) (hf : (Builtin.firstCells i.size m (.slice ao m c)).run P w = .ok news.toArray w) (h1 : ∀ u ∈ news, u.oneCell' = true)
    (hroom : sLen + m ≤ sCap) (hfit : go + sLen * i.size + news.length ≤ cur.size) :
    (Builtin.append_ #[t, t] ty #[.slice (some ⟨g, go, none⟩) sLen sCap, .slice ao m c]).run P w =
      .ok (.slice (some ⟨g, go, none⟩) (sLen + m) sCap) (w.setRow g (lput cur.toList (go + sLen * i.size) news).toArray) := by
  have hst := run_storeCells_at P g (go + sLen * i.size) t0 news 0 cur w hg (by simpa using hfit) h1
  simp only [Nat.add_zero] at hst
  simp [Builtin.append_, run_underlying ht, sizeOf, typeInfo, hi, Builtin.lenOf, hroom, hf, add_addr, hst, lput]

theorem run_append_grow' {P : Program} (w : World) (t ty e : TypeId) (i : TypeInfo) (z : Value) (ht : P.underlying t = some (.slice e)) (hi : P.info? e = some i) (hz : i.zero = some z)
    (b : Addr) (sLen sCap : Nat) (olds : List Value) (hlo : olds.length = sLen * i.size) (holds : ∀ (j : Nat) v, olds[j]? = some v → w.cell? (b.add j) = some v)
    (ao : Option Addr) (n c : Nat) (news : List Value) (hnn : ao = none → n = 0 ∧ c = 0) (hl : news.length = n * i.size) (hnews : ∀ ad, ao = some ad → ∀ (j : Nat) v, news[j]? = some v → w.cell? (ad.add j) = some v)
    (hg : sCap < sLen + n) (h63 : ((sLen + n : Nat) : Int) ≤ 9223372036854775807) (hfit : Builtin.nextslicecap (sLen + n) sCap * i.bytes ≤ 281474976710656) (hle : sLen ≤ sCap) :
    (Builtin.append_ #[t, t] ty #[.slice (some b) sLen sCap, .slice ao n c]).run P w =
      .ok (.slice (some ⟨w.heap.size, 0, none⟩) (sLen + n) (grownCap w (sLen + n) sCap e))
        (w.drew.alloc (.cells (olds.toArray ++ news.toArray ++ Builtin.zeroCells z.cells (grownCap w (sLen + n) sCap e - (sLen + n))) e)) := by
  cases ao with
  | none => have := (hnn rfl).1; omega
  | some ad => exact run_append_grow w t ty e i z ht hi hz b sLen sCap olds hlo holds ad n c news hl (hnews ad rfl) hg h63 hfit

/-- What a grown row is. -/
theorem step_grown {ι : Inj} {w : World} (hi : Inv X ι H w) (hn : ∀ n, H.length ≤ n → ι (.l n) = none) {el sz n m c0 : Nat} {zv : Value} {old cs : List AC} {olds news : List Value} (hA : A2 (RC ι) old olds) (hB : A2 (RC ι) cs news) (hl1 : olds.length = n * sz) (hl2 : news.length = m * sz)
    (hz : zv.cells.size = sz) (h63 : n + m ≤ maxLen) :
    ∃ ι', RT ι' (.v (.c (.sl (.l H.length) 0 (n + m) (n + m) false))) (.slice (some ⟨w.heap.size, 0, none⟩) (n + m) (grownCap w (n + m) c0 el)) ∧
      Step X ι H w ι' (H ++ [some ⟨old ++ cs, true, sz⟩]) (w.drew.alloc (.cells (olds.toArray ++ news.toArray ++ Builtin.zeroCells zv.cells (grownCap w (n + m) c0 el - (n + m))) el)) := by
  have hge := grownCap_ge w (n + m) c0 el
  have hcm := grownCap_le_maxLen w (n + m) c0 el h63
  have hAB := A2.append hA hB
  have hlA := hAB.length
  have hsz : (olds.toArray ++ news.toArray ++ Builtin.zeroCells zv.cells (grownCap w (n + m) c0 el - (n + m))).size = grownCap w (n + m) c0 el * sz := by
    simp only [Array.size_append, List.size_toArray, zeroCells_size, hl1, hl2, hz]
    rw [← Nat.add_mul, ← Nat.add_mul]
    congr 1
    omega
  refine ⟨_, ⟨_, grownCap w (n + m) c0 el, upd_same _ _ _, rfl, hge, hge, (fun h => by cases h), hcm, ?_⟩, step_new (esz := sz) (t := el) (cs := old ++ cs) hi hn (w1 := w.drew) (arr := olds.toArray ++ news.toArray ++ Builtin.zeroCells zv.cells (grownCap w (n + m) c0 el - (n + m))) rfl rfl rfl rfl ?_ ?_⟩
  · simp only [hsz]; omega
  · rw [hlA, hsz, List.length_append, hl1, hl2, ← Nat.add_mul]
    exact Nat.mul_le_mul_right _ hge
  · intro j c hj
    obtain ⟨u, a1, a2⟩ := hAB.get j c hj
    have hlt : j < (olds ++ news).length := (List.getElem?_eq_some_iff.1 a1).1
    refine ⟨u, ?_, a2⟩
    rw [Array.getElem?_append_left (by simpa using hlt)]
    simpa using a1

/-- An append to a row of one's own. -/
theorem r_app_own {t el b off n lo : Nat} {ex : Bool} {x y : Operand} {s1 b1 : Nat} {zz1 : List ZC} {d : TD} {v : AT} {m : Nat} {old cs : List AC} {k : Blk} (ho : o.op = .call { callee := .builtin .append, args := #[x, y], argTypes := #[t, t] }) (ht : X.ty t = some ⟨.slice el, s1, b1, zz1⟩) (he : X.ty el = some d)
    (hx : opv X E x = some (.v (.c (.sl (.l b) off n lo ex)))) (hy : opv X E y = some v) (hs : src X H d.size v = some (m, cs)) (hk : hget X H (.l b) = some k) (hok : k.own = true) (hez : k.esz = d.size) (hld : ld X H (.l b) off (n * d.size) = some old)
    (hb : (n + m) * d.bytes ≤ 140737488355328) (h63 : n + m ≤ maxLen) (hp : Nat.blt 0 d.size = true) :
    OS X o E H (some (.v (.c (.sl (.l H.length) 0 (n + m) (n + m) false)))) (H.set b none ++ [some ⟨old ++ cs, true, d.size⟩]) :=
  os_step fun ι a w hi hn hr => by
    obtain ⟨ti, zv, h1, h2, h3, h4, h5, h6⟩ := ty_info he
    obtain ⟨L, c0, hL, e1, g1, g2, g3, g4, g5⟩ := hr x (by simp [ho, Op.operands, Call.operands]) _ hx
    obtain ⟨ao, c, vs, e2, hl, hA, hno, hc⟩ := src_sound hi (hr y (by simp [ho, Op.operands, Call.operands]) _ hy) hs
    obtain ⟨olds, l1, l2, l3⟩ := ld_cells hi hL hld
    obtain ⟨arr, t0, fr, k1, k2, k3, k4, k5, k6⟩ := hi.blk _ L k hL hk
    obtain rfl : fr = (0, 0) := by
      rcases k5 hok with e | ⟨e, _⟩
      · exact e
      · rw [hez] at e; rw [e] at hp; cases hp
    have hu := ty_slice ht
    have hlA := hA.length
    have hlo := l2.length
    have hez' : L.esz = d.size := by rw [← k4, hez]
    by_cases hroom : n + m ≤ c0
    · have hmul : (n + m) * d.size ≤ c0 * d.size := Nat.mul_le_mul_right _ hroom
      rw [Nat.add_mul] at hmul
      rw [hez'] at g5
      have hfit : L.off + off + n * d.size + vs.length ≤ arr.size := by omega
      have hrun := run_append_room' (P := X.P) w t o.type el ti hu h1 L.blk (L.off + off) t0 n c0 arr k1 ao m c vs (src_first (X := X) (by rw [h2]; exact hl) hno hc) hA.one hroom (by rw [h2]; exact hfit)
      rw [h2] at hrun
      have hrun' : (execOp a.eval o).run X.P w = .ok (.value (.slice (some ⟨L.blk, L.off + off, none⟩) (n + m) c0)) (w.setRow L.blk (lput arr.toList (L.off + off + n * d.size) vs).toArray) := by
        simp only [execOp, ho, resolve, invoke, builtin]; simp [e1, e2, hrun]
      refine ⟨upd ι H.length ⟨L.blk, L.off + off, L.size, L.esz⟩, _, _, hrun', ?_, ?_⟩
      · refine ⟨_, c0, upd_same _ _ _, rfl, hroom, hroom, (fun h => by cases h), g4, ?_⟩
        simp only
        rw [hez']
        omega
      · have := step_move hi hn hL hk hok (arr' := (lput arr.toList (L.off + off + n * d.size) vs).toArray) (off := off) (cs := old ++ cs) k1 (by simp [lput_length (cs := arr.toList) (vs := vs) (off := L.off + off + n * d.size) (by simpa using hfit)]) k2 (by simp; omega) ?_
        · rw [hez'] at this; rw [hez'] ; exact this
        · intro j c' hj
          have hAB := A2.append l2 hA
          obtain ⟨u, a1, a2⟩ := hAB.get j c' hj
          refine ⟨u, ?_, a2⟩
          have hlt : j < (olds ++ vs).length := (List.getElem?_eq_some_iff.1 a1).1
          simp only [List.getElem?_toArray]
          rw [lput_get (by simpa using hfit)]
          simp only [List.length_append] at hlt
          by_cases c1 : j < olds.length
          · rw [if_pos (by omega)]
            rw [List.getElem?_append_left c1] at a1
            have := l3 j u a1
            simp only [World.cell?, k1] at this
            simpa using this
          · rw [if_neg (by omega), if_pos (by omega)]
            rw [List.getElem?_append_right (by omega)] at a1
            rw [← a1]
            congr 1
            omega
    · have hrun := run_append_grow' (P := X.P) w t o.type el ti zv hu h1 h4 ⟨L.blk, L.off + off, none⟩ n c0 olds (by rw [h2]; exact l1) (fun j v hv => by rw [add_addr]; exact l3 j v hv) ao m c vs hno (by rw [h2]; exact hl) hc (by omega) (by unfold maxLen at h63; omega) (growslice_fits (by omega) (by rw [h3]; exact hb)) g1
      have hd := step_drop hi b
      have hlen : (H.set b none).length = H.length := by simp
      obtain ⟨ι', r1, r2⟩ := step_grown (el := el) (c0 := c0) (zv := zv) hd.inv (fun n h => hn n (by rw [hlen] at h; exact h)) l2 hA l1 hl h6 h63
      rw [hlen] at r1
      have hrun' := hrun
      refine ⟨ι', .slice (some ⟨w.heap.size, 0, none⟩) (n + m) (grownCap w (n + m) c0 el), w.drew.alloc (.cells (olds.toArray ++ vs.toArray ++ Builtin.zeroCells zv.cells (grownCap w (n + m) c0 el - (n + m))) el), ?_, r1, hd.trans r2⟩
      simp only [execOp, ho, resolve, invoke, builtin]; simp only [List.map_toArray, List.map_cons, List.map_nil, e1, e2, Sem.run_bind, Sem.run_pure, Result.andThen_ok, hrun]

/-- An append to a row with no room left. -/
theorem r_app_full {t el off n lo : Nat} {bd : Bid} {x y : Operand} {s1 b1 : Nat} {zz1 : List ZC} {d : TD} {v : AT} {m : Nat} {old cs : List AC} (ho : o.op = .call { callee := .builtin .append, args := #[x, y], argTypes := #[t, t] }) (ht : X.ty t = some ⟨.slice el, s1, b1, zz1⟩) (he : X.ty el = some d)
    (hx : opv X E x = some (.v (.c (.sl bd off n lo true)))) (hy : opv X E y = some v) (hs : src X H d.size v = some (m, cs)) (hld : ld X H bd off (n * d.size) = some old) (hlt : lo < n + m)
    (hb : (n + m) * d.bytes ≤ 140737488355328) (h63 : n + m ≤ maxLen) :
    OS X o E H (some (.v (.c (.sl (.l H.length) 0 (n + m) (n + m) false)))) (H ++ [some ⟨old ++ cs, true, d.size⟩]) :=
  os_step fun ι a w hi hn hr => by
    obtain ⟨ti, zv, h1, h2, h3, h4, h5, h6⟩ := ty_info he
    obtain ⟨L, c0, hL, e1, g1, g2, g3, g4, g5⟩ := hr x (by simp [ho, Op.operands, Call.operands]) _ hx
    obtain ⟨ao, c, vs, e2, hl, hA, hno, hc⟩ := src_sound hi (hr y (by simp [ho, Op.operands, Call.operands]) _ hy) hs
    obtain ⟨olds, l1, l2, l3⟩ := ld_cells hi hL hld
    have hu := ty_slice ht
    have := g3 rfl
    subst this
    have hrun := run_append_grow' (P := X.P) w t o.type el ti zv hu h1 h4 ⟨L.blk, L.off + off, none⟩ n c0 olds (by rw [h2]; exact l1) (fun j v hv => by rw [add_addr]; exact l3 j v hv) ao m c vs hno (by rw [h2]; exact hl) hc (by omega) (by unfold maxLen at h63; omega) (growslice_fits (by omega) (by rw [h3]; exact hb)) g1
    obtain ⟨ι', r1, r2⟩ := step_grown (el := el) (c0 := c0) (zv := zv) hi hn l2 hA l1 hl h6 h63
    refine ⟨ι', .slice (some ⟨w.heap.size, 0, none⟩) (n + m) (grownCap w (n + m) c0 el), w.drew.alloc (.cells (olds.toArray ++ vs.toArray ++ Builtin.zeroCells zv.cells (grownCap w (n + m) c0 el - (n + m))) el), ?_, r1, r2⟩
    simp only [execOp, ho, resolve, invoke, builtin]; simp only [List.map_toArray, List.map_cons, List.map_nil, e1, e2, Sem.run_bind, Sem.run_pure, Result.andThen_ok, hrun]
end
end Go.Aw
