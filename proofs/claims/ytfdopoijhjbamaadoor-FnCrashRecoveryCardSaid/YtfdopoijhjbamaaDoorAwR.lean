/- The rule for regions that draw their order. -/
import Derived.Test.YtfdopoijhjbamaaDoorAwQ
namespace Go.Aw
set_option linter.unusedVariables false
set_option linter.unusedSimpArgs false

theorem One.inv {X : Cx} {ops : Array Oper} {o : Oper} {E : Env} {H H1 : Heap} {r : Option AT} {m : Nat} (h : One X ops o E H r H1 m) :
    (m = 0 ∧ H1 = H ∧ ∃ g : Bool × Bool, gd ops o E = some g ∧ g.1 = g.2 ∧ ∀ H, OS X o E H r H) ∨
    (m = 1 ∧ ∃ g : Bool × Bool, gd ops o E = some g ∧ g.1 = g.2 ∧ OS X o E H r H1) ∨
    (m = 2 ∧ ∃ g : Bool × Bool, gd ops o E = some g ∧ g.1 = g.2 ∧ OS X o E H r H1) ∨
    (m = 3 ∧ H1 = H ∧ r = some (.tu []) ∧ ∃ g : Bool × Bool, gd ops o E = some g ∧ g.1 = !g.2) ∨
    (m = 4 ∧ H1 = H ∧ (∀ v, r = some v → v.ids = []) ∧ ∃ g : Bool × Bool, gd ops o E = some g ∧ g.1 = g.2) := by
  cases h with
  | pure hg hgt h => exact .inl ⟨rfl, rfl, _, hg, hgt, h⟩
  | mem hg hgt h => exact .inr (.inl ⟨rfl, _, hg, hgt, h⟩)
  | eff hg hgt hl h => exact .inr (.inr (.inl ⟨rfl, _, hg, hgt, h⟩))
  | skip hg hgt hr => exact .inr (.inr (.inr (.inl ⟨rfl, rfl, hr, _, hg, hgt⟩)))
  | kept hg hgt hid => exact .inr (.inr (.inr (.inr ⟨rfl, rfl, hid, _, hg, hgt⟩)))

section
variable {X : Cx} {N : FK} {S : St} {ops : Array Oper} {Es : Nat → Env} {Hs : Nat → Heap} {rs : Nat → Option AT} {ms : Nat → Nat}

theorem RT.lo {ι : Inj} {v : AT} {x : Value} (h : RT ι v x) {n : Nat} (hn : ∀ m, n ≤ m → ι (.l m) = none) : Lo n v.ids := fun m hm => by
  obtain ⟨L, hL⟩ := h.mapped hm
  exact Nat.lt_of_not_le fun hle => by rw [hn m hle] at hL; cases hL

theorem draw_step (r : Run X N ops Es Hs rs ms) {ls : Nat → Bool} {s f i : Nat} {ι : Inj} {a : Act} {w : World} {o : Oper} (JA : JE X N ops Es Hs rs ls ι a) (JB : JH X S ops Hs ms ls s f ι w) (ho : ops[i]? = some o) (hi : ls i = false)
    (hr : ∀ e ∈ o.after, Region.binds .any e = true → ls e.on = true) {K : Act → World → Prop} {Q : Exit → Act → World → Prop}
    (hK : ∀ s' f' ι' a' w', JE X N ops Es Hs rs (fun j => Nat.beq j i || ls j) ι' a' → JH X S ops Hs ms (fun j => Nat.beq j i || ls j) s' f' ι' w' → K a' w') : wpOp X.P ops Q i K a w := by
  have hin : i < ops.size := (Array.getElem?_eq_some_iff.1 ho).1
  obtain ⟨hd, he, one⟩ := r.one i o ho
  have hord : ∀ j, ordB ops j i = true → ls j = true := fun j h => bfN_sound JA.clo _ _ _ h (fun o' ho' => by rw [ho] at ho'; cases ho'; exact hr)
  have hrop := JA.rop r ho hi hr JB.good.inv.glo
  have hlen := r.len hin
  have beqi : ∀ j, Nat.beq j i = true → j = i := fun j h => Nat.eq_of_beq_eq_true h
  have notLate : ms i = 1 ∨ ms i = 2 → ¬ f < i := by
    intro hm hlt
    have hfn : f < ops.size := by omega
    have hf2 : ms f = 2 := JB.isf.resolve_left (by omega)
    have := hord f (r.ok.effs f i hlt hin (.inr hf2) hm (.inl hf2))
    rw [JB.post f (Nat.le_refl _) hfn (.inr hf2)] at this; cases this
  have notSoon : ms i = 1 ∨ ms i = 2 → s ≤ i := fun hm => Nat.le_of_not_lt fun hlt => by
    have := JB.pre i hlt hm; rw [hi] at this; cases this
  have setq : ms i ≠ 1 → ms i ≠ 2 → JH X S ops Hs ms (fun j => Nat.beq j i || ls j) s f ι w := fun n1 n2 =>
    JB.set (fun j h => by simp [h]) (fun j _ hm h => by
      simp only [Bool.or_eq_true] at h
      rcases h with h | h
      · have := beqi j h; subst this; rcases hm with h | h
        · exact absurd h n1
        · exact absurd h n2
      · exact h)
  unfold wpOp
  rw [ho]
  simp only []
  rcases one.inv with ⟨hm, hH, g, hg, hgt, hOS⟩ | ⟨hm, g, hg, hgt, hOS⟩ | ⟨hm, g, hg, hgt, hOS⟩ | ⟨hm, hH, hrn, g, hg, hgt⟩ | ⟨hm, hH, hid, g, hg, hgt⟩
  · rw [if_pos (by rw [JA.wanted r ho hi hr hg, hgt]; simp)]
    refine .inl (hOS (List.replicate (Hs i).length none) (rst ι (Hs i).length) a w (JB.good.inv.bare _) (fun n hn => rst_ge (by simpa using hn)) hrop K Q ?_)
    intro ι' x w' st hx
    have hag : ∀ b, ι' b = rst ι (Hs i).length b := fun b => st.agree b (fun n e => by omega)
    have J2 := setq (by omega) (by omega)
    refine hK s f ι _ w' (JA.put r ho hi hr (fun b L h => h) (fun v hv => ?_)) ⟨J2.sf, J2.fn, J2.pre, J2.post, J2.mid, J2.isf, J2.good.quiet st, J2.c1, J2.wf, J2.h0⟩
    have := hx v hv
    refine ⟨this.mono (fun b L h => rst_sub (by rw [← hag]; exact h)), this.lo (fun m hmm => ?_)⟩
    rw [hag, rst_ge (by omega)]
  · have h1 := notSoon (.inl hm)
    have h2 : i < f := by
      have := notLate (.inl hm)
      by_cases e : i = f
      · subst e
        rcases JB.isf with h | h <;> omega
      · omega
    obtain ⟨R, hR⟩ := r.pre (i := i) (j := f) (by omega) JB.fn (fun q p1 p2 => JB.mid q (by omega) p2)
    have hinv : Inv X (rst ι (Hs i).length) (Hs i) w := Inv.rst (R := R) (hR ▸ JB.good.inv) (fun m L k p1 p2 p3 => JB.wf i h1 (by omega) m L k p1 p2 (by rw [hR]; exact p3))
    rw [if_pos (by rw [JA.wanted r ho hi hr hg, hgt]; simp)]
    refine .inl (hOS (rst ι (Hs i).length) a w hinv (fun n hn => rst_ge hn) hrop K Q ?_)
    intro ι' x w' st hx
    obtain ⟨ι2, up, up', hno, J2⟩ := JB.mem r h1 h2 hi st
    exact hK s f ι2 _ w' (JA.put r ho hi hr up (fun v hv => ⟨(hx v hv).mono up', (hx v hv).lo hno⟩)) J2
  · have h1 := notSoon (.inr hm)
    have h2 : i = f := by
      have := notLate (.inr hm)
      by_cases e : i < f
      · exact absurd hm (JB.mid i h1 e)
      · omega
    subst h2
    rw [if_pos (by rw [JA.wanted r ho hi hr hg, hgt]; simp)]
    refine .inl (hOS ι a w JB.good.inv JB.good.none (fun x hx v hv => (hrop x hx v hv).mono (fun b L h => rst_sub h)) K Q ?_)
    intro ι' x w' st hx
    have hg' := JB.good.step st
    obtain ⟨f', J2⟩ := JH.fresh r (ls := fun j => Nat.beq j i || ls j) JB.h0 (s := i + 1) (by omega) hg' (fun j hj hmj => by
      by_cases e : j = i
      · subst e; simp
      · simp [hord j (r.ok.effs j i (by omega) hin hmj (.inr hm) (.inr hm))]) (fun f' p1 p2 p3 p4 j q1 q2 q3 => by
        have hne : Nat.beq j i = false := by
          cases hb : Nat.beq j i with
          | false => rfl
          | true => have := beqi j hb; omega
        simp [hne, JB.post j (by omega) q2 q3])
    exact hK (i + 1) f' ι' _ w' (JA.put r ho hi hr (JB.good.keeps st) (fun v hv => ⟨hx v hv, (hx v hv).lo hg'.none⟩)) J2
  · rw [if_neg (by rw [JA.wanted r ho hi hr hg, hgt]; simp)]
    exact hK s f ι _ w (JA.put r ho hi hr (fun b L h => h) (fun v hv => by rw [hrn] at hv; cases hv; exact ⟨⟨[], rfl, .nil⟩, fun m hm => by simp [AT.ids] at hm⟩)) (setq (by omega) (by omega))
  · rw [if_pos (by rw [JA.wanted r ho hi hr hg, hgt]; simp)]
    have hOS := r.kept i o ho hm f JB.fn (fun j hj hm2 => by
      cases hb : ordB ops i j with
      | false => rfl
      | true =>
        have hjs : j < s := Nat.lt_of_not_le fun h => JB.mid j h hj hm2
        have hlj := JB.pre j hjs (.inr hm2)
        have := bfN_sound JA.clo _ _ _ hb (fun o' ho' => JA.clo j o' ho' hlj)
        rw [hi] at this; cases this)
    refine .inl (hOS ι a w JB.good.inv JB.good.none (fun x hx v hv => (hrop x hx v hv).mono (fun b L h => rst_sub h)) K Q ?_)
    intro ι' x w' st hx
    have hag : ι' = ι := funext fun b => st.agree b (fun n e => Nat.lt_or_ge n _)
    subst hag
    have J2 := setq (by omega) (by omega)
    exact hK s f ι' _ w' (JA.put r ho hi hr (fun b L h => h) (fun v hv => ⟨hx v hv, fun m hm => by rw [hid v hv] at hm; cases hm⟩)) ⟨J2.sf, J2.fn, J2.pre, J2.post, J2.mid, J2.isf, J2.good.step st, J2.c1, J2.wf, J2.h0⟩

theorem cnt_lt {p q : Nat → Bool} {i : Nat} : ∀ {l : List Nat}, (∀ x, q x = true → p x = true) → i ∈ l → p i = true → q i = false → l.countP q < l.countP p
  | [], _, h, _, _ => by cases h
  | x :: xs, h, hi, hp, hq => by
    have hle : xs.countP q ≤ xs.countP p := List.countP_mono_left fun x _ => h x
    simp only [List.countP_cons]
    rcases List.mem_cons.1 hi with e | e
    · subst e; simp only [hp, hq, if_true]; simp; omega
    · have := cnt_lt h e hp hq
      have : (if q x = true then 1 else 0) ≤ (if p x = true then 1 else 0) := by
        by_cases hx : q x = true
        · simp [hx, h x hx]
        · simp [hx]
      omega

theorem draw_any (r : Run X N ops Es Hs rs ms) {Q : APost} (hK : Q .normal (Es ops.size) (Hs ops.size)) : ∀ (fuel : Nat) (listed : Array Bool) (a : Act) (w : World) (s f : Nat) (ι : Inj), listed.size = ops.size →
    (List.range ops.size).countP (fun i => !listed.getD i false) ≤ fuel → JE X N ops Es Hs rs (fun j => listed.getD j false) ι a → JH X S ops Hs ms (fun j => listed.getD j false) s f ι w → wpAny X.P .any ops (Post X N S Q) fuel listed a w := by
  have allDone : ∀ (listed : Array Bool), listed.size = ops.size → Region.ready .any ops listed = [] → ∀ j, j < ops.size → listed.getD j false = true := by
    intro listed hsz hnil j
    induction j using Nat.strongRecOn with
    | ind j ih =>
      intro hj
      cases hl : listed.getD j false with
      | true => rfl
      | false =>
        have : j ∈ Region.ready .any ops listed := by
          refine mem_ready.2 ⟨?_, ops[j], by simp [hj], fun e he hb => ?_⟩
          · have hjs : j < listed.size := by omega
            simp [hjs] at hl ⊢; exact hl
          · have := r.ok.back j ops[j] (by simp [hj]) e he hb
            exact ih e.on this (by omega)
        rw [hnil] at this; cases this
  have fin : ∀ (listed : Array Bool) (a : Act) (w : World) (s f : Nat) (ι : Inj), (∀ j, j < ops.size → listed.getD j false = true) → JE X N ops Es Hs rs (fun j => listed.getD j false) ι a → JH X S ops Hs ms (fun j => listed.getD j false) s f ι w → Post X N S Q .normal a w := by
    intro listed a w s f ι hall JA JB
    have hf : f = ops.size := by
      rcases JB.isf with h | h
      · exact h
      · have hfn := JB.fn
        by_cases e : f = ops.size
        · exact e
        · have := JB.post f (Nat.le_refl _) (by omega) (.inr h)
          rw [hall f (by omega)] at this; cases this
    subst hf
    refine ⟨.normal, _, _, ι, rfl, hK, JB.good, JA.size, JA.defers, fun t v ht => ?_⟩
    rcases r.from_ (Nat.le_refl _) ht with ⟨j, o, h1, h2, h3, h4⟩ | ⟨h1, h2⟩
    · obtain ⟨x, a1, a2, _⟩ := JA.d1 j o t v h2 (hall j h1) h3 h4
      exact ⟨x, a1, a2⟩
    · obtain ⟨x, a1, a2, _⟩ := JA.d0 t v h1 (fun j o hj _ => h2 j o (Array.getElem?_eq_some_iff.1 hj).1 hj)
      exact ⟨x, a1, a2⟩
  intro fuel
  induction fuel with
  | zero =>
    intro listed a w s f ι hsz hc JA JB
    have hall : ∀ j, j < ops.size → listed.getD j false = true := fun j hj => by
      have := List.countP_eq_zero.1 (Nat.le_zero.1 hc) j (List.mem_range.2 hj)
      simpa using this
    refine ⟨?_, fin listed a w s f ι hall JA JB⟩
    cases hrd : Region.ready .any ops listed with
    | nil => rfl
    | cons x xs =>
      obtain ⟨h1, o, h2, _⟩ := mem_ready.1 (by rw [hrd]; exact List.mem_cons_self : x ∈ Region.ready .any ops listed)
      have hx := (Array.getElem?_eq_some_iff.1 h2).1
      have := hall x hx
      have hxs : x < listed.size := by omega
      simp [hxs] at this h1
      rw [this] at h1; cases h1
  | succ fuel ih =>
    intro listed a w s f ι hsz hc JA JB
    refine ⟨fun h0 => fin listed a w s f ι (allDone listed hsz h0) JA JB, fun i hi => ?_⟩
    obtain ⟨h1, o, h2, h3⟩ := mem_ready.1 hi
    have hin := (Array.getElem?_eq_some_iff.1 h2).1
    have his : i < listed.size := by omega
    have hif : listed.getD i false = false := by simp [his] at h1 ⊢; exact h1
    have hls : (fun j => (listed.setIfInBounds i true).getD j false) = fun j => Nat.beq j i || listed.getD j false := by
      funext j
      by_cases e : j = i
      · subst e; simp [his]
      · have hb : Nat.beq j i = false := by
          cases hb : Nat.beq j i with
          | false => rfl
          | true => exact absurd (Nat.eq_of_beq_eq_true hb) e
        rw [getD_set_ne false (fun h => e h.symm), hb, Bool.false_or]
    refine draw_step r JA JB h2 hif h3 (fun s' f' ι' a' w' JA' JB' => ?_)
    refine ih _ a' w' s' f' ι' (by simp [hsz]) ?_ (by rw [hls]; exact JA') (by rw [hls]; exact JB')
    have : (List.range ops.size).countP (fun i_1 => !(listed.setIfInBounds i true).getD i_1 false) < (List.range ops.size).countP (fun i => !listed.getD i false) := by
      refine cnt_lt (i := i) (fun x hx => ?_) (List.mem_range.2 hin) (by simp [hif]) ?_
      · have := congrFun hls x
        simp only [this] at hx
        simp only [Bool.not_eq_true', Bool.or_eq_false_iff] at hx
        simp [hx.2]
      · have := congrFun hls i
        simp only [this]
        simp
    omega
end

/-- .. out of any run. -/
theorem aw_of_run {X : Cx} {N : FK} {S : St} {E E' : Env} {H H' : Heap} {id : Nat} {l : List Oper} {Q : APost} {Es : Nat → Env} {Hs : Nat → Heap} {rs : Nat → Option AT} {ms : Nat → Nat} (r : Run X N l.toArray Es Hs rs ms) (d1 : Es 0 = E) (d2 : Hs 0 = H) (d3 : Es l.length = E') (d4 : Hs l.length = H') (h3 : Q .normal E' H') : AW X N S (.region id l.toArray true) E H Q := by
  intro ι a w hg he
  refine wp_region_any X.mixed ?_
  have hls : (fun j => (Array.replicate l.toArray.size false).getD j false) = fun _ => false := by
    funext j
    rw [Array.getD_eq_getD_getElem?, Array.getElem?_replicate]
    split <;> rfl
  obtain ⟨f, JB⟩ := JH.fresh (X := X) (S := S) r (ls := fun _ => false) (ι := ι) (w := { w with drawn := w.drawn + 1 }) (s := 0) (by rw [d2]; exact hg.le.len) (Nat.zero_le _) (by rw [d2]; exact hg.drew _) (fun j hj => by omega) (fun _ _ _ _ _ _ _ _ _ => rfl)
  refine draw_any (S := S) r (Q := Q) (by simp only [List.size_toArray]; rw [d3, d4]; exact h3) _ _ a _ 0 f ι (by simp) ?_ (by rw [hls]; refine ⟨fun _ _ _ h => by (cases h), he.size, he.defers, fun t v ht _ => ?_, fun _ _ _ _ _ h => by (cases h)⟩; rw [d1] at ht; obtain ⟨x, p1, p2⟩ := he.val t v ht; exact ⟨x, p1, p2, by rw [d2]; exact p2.lo hg.none⟩) (by rw [hls]; exact JB)
  exact Nat.le_trans List.countP_le_length (by simp)

/-- A region that draws its order. -/
theorem aw_region_draw {X : Cx} {N : FK} {S : St} {E : Env} {H : Heap} {id : Nat} {l : List Oper} {Q : APost} (h : RR X N l.toArray (fun T => drawOk l.toArray T) 0 l E H (Q .normal)) : AW X N S (.region id l.toArray true) E H Q := by
  obtain ⟨T, E', H', h1, h2, h3⟩ := h
  obtain ⟨Es, Hs, rs, d1, d2, d3, d4, d5⟩ := h1.data
  have r : Run X N l.toArray Es Hs rs (fun i => (T.map (·.2)).getD i 9) := ⟨fun i o ho => have p := d5 i o (by simpa using ho); ⟨p.1, p.2.1, p.2.2.1⟩, drawOk_spec h2, fun i o ho hm => absurd hm (d5 i o (by simpa using ho)).2.2.2⟩
  exact aw_of_run r d1 d2 d3 d4 h3
end Go.Aw
