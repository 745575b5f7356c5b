/- A region that draws its order runs as in the text's order: every step, in whatever order. -/
import Derived.Test.YtfdopoijhjbamaaDoorAwO
namespace Go.Aw
set_option linter.unusedVariables false
set_option linter.unusedSimpArgs false

/-- The run in the text's order. -/
structure Run (X : Cx) (N : FK) (ops : Array Oper) (Es : Nat → Env) (Hs : Nat → Heap) (rs : Nat → Option AT) (ms : Nat → Nat) : Prop where
  one : ∀ (i : Nat) o, ops[i]? = some o → dstOk N o = true ∧ Es (i + 1) = (Es i).out o (rs i) ∧ One X ops o (Es i) (Hs i) (rs i) (Hs (i + 1)) (ms i)
  ok : DrawOk ops ms
  kept : ∀ (i : Nat) o, ops[i]? = some o → ms i = 4 → ∀ f, f ≤ ops.size → (∀ j, j < f → ms j = 2 → ordB ops i j = false) → OS X o (Es i) (Hs f) (rs i) (Hs f)

section
variable {X : Cx} {N : FK} {S : St} {ops : Array Oper} {Es : Nat → Env} {Hs : Nat → Heap} {rs : Nat → Option AT} {ms : Nat → Nat}

theorem Run.len (r : Run X N ops Es Hs rs ms) {i : Nat} (hi : i < ops.size) : (Hs i).length ≤ (Hs (i + 1)).length := by
  obtain ⟨_, _, h⟩ := r.one i ops[i] (by simp [hi])
  generalize Hs (i + 1) = H1 at h
  generalize ms i = m at h
  cases h with
  | pure => exact Nat.le_refl _
  | mem => simp
  | eff _ _ hl => exact hl
  | skip => exact Nat.le_refl _
  | kept => exact Nat.le_refl _
theorem Run.mono (r : Run X N ops Es Hs rs ms) {i : Nat} : ∀ {j : Nat}, i ≤ j → j ≤ ops.size → (Hs i).length ≤ (Hs j).length
  | 0, h, _ => by have : i = 0 := by omega
                  subst this; exact Nat.le_refl _
  | j + 1, h, hj => by
    by_cases e : i = j + 1
    · subst e; exact Nat.le_refl _
    · exact Nat.le_trans (r.mono (j := j) (by omega) (by omega)) (r.len (by omega))
theorem Run.grow (r : Run X N ops Es Hs rs ms) {i : Nat} (hi : i < ops.size) (hm : ms i ≠ 2) : ∃ L, Hs (i + 1) = Hs i ++ L := by
  obtain ⟨_, _, h⟩ := r.one i ops[i] (by simp [hi])
  generalize Hs (i + 1) = H1 at h
  generalize ms i = m at h hm
  cases h with
  | pure => exact ⟨[], by simp⟩
  | mem => exact ⟨_, rfl⟩
  | eff => exact absurd rfl hm
  | skip => exact ⟨[], by simp⟩
  | kept => exact ⟨[], by simp⟩
theorem Run.pre (r : Run X N ops Es Hs rs ms) {i : Nat} : ∀ {j : Nat}, i ≤ j → j ≤ ops.size → (∀ q, i ≤ q → q < j → ms q ≠ 2) → ∃ R, Hs j = Hs i ++ R
  | 0, h, _, _ => by have : i = 0 := by omega
                     subst this; exact ⟨[], by simp⟩
  | j + 1, h, hj, hm => by
    by_cases e : i = j + 1
    · subst e; exact ⟨[], by simp⟩
    · obtain ⟨R, h1⟩ := r.pre (j := j) (by omega) (by omega) (fun q h1 h2 => hm q h1 (by omega))
      obtain ⟨L, h2⟩ := r.grow (i := j) (by omega) (hm j (by omega) (by omega))
      exact ⟨R ++ L, by rw [h2, h1, List.append_assoc]⟩

/-- Where a value in the text's order comes from. -/
theorem Run.from_ (r : Run X N ops Es Hs rs ms) {t : Nat} {v : AT} : ∀ {i : Nat}, i ≤ ops.size → (Es i).get t = some v →
    (∃ j o, j < i ∧ ops[j]? = some o ∧ o.dst = some t ∧ rs j = some v) ∨ ((Es 0).get t = some v ∧ ∀ (j : Nat) o, j < i → ops[j]? = some o → o.dst ≠ some t)
  | 0, _, h => .inr ⟨h, fun j o hj => by omega⟩
  | i + 1, hi, h => by
    have ho : ops[i]? = some ops[i] := by simp
    obtain ⟨_, he, _⟩ := r.one i _ ho
    rw [he] at h
    unfold Env.out at h
    have old : (Es i).get t = some v → ops[i].dst ≠ some t → (∃ j o, j < i + 1 ∧ ops[j]? = some o ∧ o.dst = some t ∧ rs j = some v) ∨ ((Es 0).get t = some v ∧ ∀ (j : Nat) o, j < i + 1 → ops[j]? = some o → o.dst ≠ some t) := by
      intro h hne
      rcases r.from_ (i := i) (by omega) h with ⟨j, o, h1, h2⟩ | ⟨h1, h2⟩
      · exact .inl ⟨j, o, by omega, h2⟩
      · refine .inr ⟨h1, fun j o hj hjo => ?_⟩
        by_cases e : j = i
        · subst e; rw [ho] at hjo; cases hjo; exact hne
        · exact h2 j o (by omega) hjo
    cases hd : ops[i].dst with
    | none => rw [hd] at h; exact old h (by rw [hd]; simp)
    | some d =>
      rw [hd] at h
      simp only [] at h
      by_cases e : t = d
      · subst e
        rw [Env.get_same] at h
        exact .inl ⟨i, _, by omega, ho, hd, h⟩
      · rw [Env.get_ne _ _ e] at h
        exact old h (by rw [hd]; intro e'; cases e'; exact e rfl)

/-- What temporaries hold, some operations being through. -/
structure JE (X : Cx) (N : FK) (ops : Array Oper) (Es : Nat → Env) (Hs : Nat → Heap) (rs : Nat → Option AT) (ls : Nat → Bool) (ι : Inj) (a : Act) : Prop where
  clo : ∀ (j : Nat) o, ops[j]? = some o → ls j = true → ∀ e ∈ o.after, Region.binds .any e = true → ls e.on = true
  size : a.tmps.size = N
  defers : a.defers = N.d
  d0 : ∀ t v, (Es 0).get t = some v → (∀ (j : Nat) o, ops[j]? = some o → ls j = true → o.dst ≠ some t) → ∃ x, a.tmps[t]? = some x ∧ RT ι v x ∧ Lo (Hs 0).length v.ids
  d1 : ∀ (j : Nat) o t v, ops[j]? = some o → ls j = true → o.dst = some t → rs j = some v → ∃ x, a.tmps[t]? = some x ∧ RT ι v x ∧ Lo (Hs (j + 1)).length v.ids

/-- What operation i looks at. -/
theorem JE.read {ls : Nat → Bool} {ι : Inj} {a : Act} (r : Run X N ops Es Hs rs ms) (J : JE X N ops Es Hs rs ls ι a) {i : Nat} {o : Oper} (ho : ops[i]? = some o) (hi : ls i = false)
    (hr : ∀ e ∈ o.after, Region.binds .any e = true → ls e.on = true) {t : Nat} {v : AT} (ht : t ∈ o.looksAt ops) (hv : (Es i).get t = some v) : ∃ x, a.tmps[t]? = some x ∧ RT ι v x ∧ Lo (Hs i).length v.ids := by
  have hlt := (Array.getElem?_eq_some_iff.1 ho).1
  have hord : ∀ j, ordB ops j i = true → ls j = true := fun j h => bfN_sound J.clo _ _ _ h (fun o' ho' => by rw [ho] at ho'; cases ho'; exact hr)
  rcases r.from_ (by omega) hv with ⟨j, o', hj, h1, h2, h3⟩ | ⟨h1, h2⟩
  · have hl := hord j ((r.ok.look i j o o' t ho h1 h2 ht).1 hj)
    obtain ⟨x, a1, a2, a3⟩ := J.d1 j o' t v h1 hl h2 h3
    exact ⟨x, a1, a2, fun m hm => Nat.lt_of_lt_of_le (a3 m hm) (r.mono (by omega) (by omega))⟩
  · obtain ⟨x, a1, a2, a3⟩ := J.d0 t v h1 (fun j o' hj hl hd => by
      by_cases e1 : j < i
      · exact h2 j o' e1 hj hd
      · by_cases e2 : j = i
        · subst e2; rw [hi] at hl; cases hl
        · have := bfN_sound J.clo _ _ _ ((r.ok.look i j o o' t ho hj hd ht).2 (by omega)) (fun o'' ho'' => by rw [hj] at ho''; cases ho''; exact J.clo j o' hj hl)
          rw [hi] at this; cases this)
    exact ⟨x, a1, a2, fun m hm => Nat.lt_of_lt_of_le (a3 m hm) (r.mono (by omega) (by omega))⟩

theorem JE.wanted {ls : Nat → Bool} {ι : Inj} {a : Act} (r : Run X N ops Es Hs rs ms) (J : JE X N ops Es Hs rs ls ι a) {i : Nat} {o : Oper} (ho : ops[i]? = some o) (hi : ls i = false)
    (hr : ∀ e ∈ o.after, Region.binds .any e = true → ls e.on = true) {g : Bool × Bool} (hg : gd ops o (Es i) = some g) : Region.wanted o (yielded ops a.tmps) = (g.1 == g.2) := by
  obtain ⟨b, c⟩ := g
  cases hgu : o.guard with
  | none =>
    have h0 : gd ops o [] = some (b, c) := by
      unfold gd at hg ⊢; rw [hgu] at hg ⊢; exact hg
    exact gd_wanted (N := N) (ι := ι) (E := []) ⟨J.size, J.defers, fun t v h => by cases h⟩ h0
  | some p =>
    obtain ⟨j, want⟩ := p
    have hg' := hg
    unfold gd at hg'
    rw [hgu] at hg'
    simp only [] at hg'
    split at hg'
    · rename_i d hd
      split at hg'
      · rename_i b' hb'
        simp only [Option.some.injEq, Prod.mk.injEq] at hg'
        obtain ⟨rfl, rfl⟩ := hg'
        obtain ⟨x, h1, h2, _⟩ := J.read r ho hi hr (t := d) (by
          unfold Oper.looksAt
          rw [hgu]
          simp only [hd]
          exact List.mem_append_right _ (by simp)) hb'
        refine gd_wanted (N := N) (ι := ι) (E := [(d, some (.v (.c (.s (.bool b')))))]) ⟨J.size, J.defers, fun t v h => ?_⟩ ?_
        · by_cases e : t = d
          · subst e; rw [Env.get_same] at h; cases h; exact ⟨x, h1, h2⟩
          · rw [Env.get_ne _ _ e] at h; cases h
        · unfold gd; rw [hgu]; simp only [hd, Env.get_same]
      · rename_i hb'
        simp only [Option.some.injEq, Prod.mk.injEq] at hg'
        obtain ⟨rfl, rfl⟩ := hg'
        obtain ⟨x, h1, h2, _⟩ := J.read r ho hi hr (t := d) (by
          unfold Oper.looksAt
          rw [hgu]
          simp only [hd]
          exact List.mem_append_right _ (by simp)) hb'
        refine gd_wanted (N := N) (ι := ι) (E := [(d, some (.tu []))]) ⟨J.size, J.defers, fun t v h => ?_⟩ ?_
        · by_cases e : t = d
          · subst e; rw [Env.get_same] at h; cases h; exact ⟨x, h1, h2⟩
          · rw [Env.get_ne _ _ e] at h; cases h
        · unfold gd; rw [hgu]; simp only [hd, Env.get_same]
      · cases hg'
    · cases hg'

theorem JE.rop {ls : Nat → Bool} {ι : Inj} {a : Act} (r : Run X N ops Es Hs rs ms) (J : JE X N ops Es Hs rs ls ι a) {i : Nat} {o : Oper} (ho : ops[i]? = some o) (hi : ls i = false)
    (hr : ∀ e ∈ o.after, Region.binds .any e = true → ls e.on = true) (hgl : ∀ n, ι (.g n) = (X.G n).map (·.1)) : ROp X (rst ι (Hs i).length) (Es i) a o.op := by
  intro x hx v hv
  have other : (∀ t, x ≠ .tmp t) → RT (rst ι (Hs i).length) v (a.eval x) := by
    intro hne
    refine opv_sound (N := N) (ι := rst ι (Hs i).length) (E := []) (X := X) ⟨J.size, J.defers, fun t v h => by cases h⟩ (fun n => hgl n) ?_
    cases x with
    | tmp t => exact absurd rfl (hne t)
    | const c => cases c <;> exact hv
    | _ => exact hv
  cases x with
  | tmp t =>
    obtain ⟨y, h1, h2, h3⟩ := J.read r ho hi hr (t := t) (by
      unfold Oper.looksAt
      exact List.mem_append_left _ (List.mem_filterMap.2 ⟨_, hx, rfl⟩)) hv
    have := h2.ids (rst_keep h3)
    simpa [Act.eval, h1] using this
  | _ => exact other (fun t => by simp)

/-- One more operation through. -/
theorem JE.put {ls : Nat → Bool} {ι ι' : Inj} {a : Act} (r : Run X N ops Es Hs rs ms) (J : JE X N ops Es Hs rs ls ι a) {i : Nat} {o : Oper} (ho : ops[i]? = some o) (hi : ls i = false)
    (hr : ∀ e ∈ o.after, Region.binds .any e = true → ls e.on = true) (hι : ∀ b L, ι b = some L → ι' b = some L) {x : Value} (hx : ∀ v, rs i = some v → RT ι' v x ∧ Lo (Hs (i + 1)).length v.ids) :
    JE X N ops Es Hs rs (fun j => Nat.beq j i || ls j) ι' (a.put o.dst x) := by
  have keep : ∀ t, o.dst ≠ some t → (a.put o.dst x).tmps[t]? = a.tmps[t]? := by
    intro t hne
    cases hd : o.dst with
    | none => rfl
    | some d => simp only [Act.put]; rw [Array.getElem?_setIfInBounds_ne (fun e => hne (by rw [hd, e]))]
  refine ⟨?_, ?_, ?_, ?_, ?_⟩
  · intro j o' ho' hl e he hb
    simp only [Bool.or_eq_true] at hl ⊢
    rcases hl with hl | hl
    · have := Nat.eq_of_beq_eq_true hl
      subst this
      rw [ho] at ho'; cases ho'
      exact .inr (hr e he hb)
    · exact .inr (J.clo j o' ho' hl e he hb)
  · cases hd : o.dst <;> simp [Act.put, J.size]
  · cases hd : o.dst <;> simp [Act.put, J.defers]
  · intro t v ht hno
    have hne : o.dst ≠ some t := hno i o ho (by simp)
    obtain ⟨y, h1, h2, h3⟩ := J.d0 t v ht (fun j o' hj hl => hno j o' hj (by simp [hl]))
    exact ⟨y, by rw [keep t hne]; exact h1, h2.mono hι, h3⟩
  · intro j o' t v ho' hl hd hv
    by_cases e : j = i
    · subst e
      rw [ho] at ho'; cases ho'
      obtain ⟨hdk, _⟩ := r.one j o ho
      unfold dstOk at hdk
      rw [hd] at hdk
      simp only [Nat.blt_eq] at hdk
      obtain ⟨h1, h2⟩ := hx v hv
      exact ⟨x, by rw [hd]; simp [Act.put, J.size, hdk], h1, h2⟩
    · have hl' : ls j = true := by
        simp only [Bool.or_eq_true] at hl
        exact hl.resolve_left fun h => e (Nat.eq_of_beq_eq_true h)
      obtain ⟨y, h1, h2, h3⟩ := J.d1 j o' t v ho' hl' hd hv
      refine ⟨y, ?_, h2.mono hι, h3⟩
      rw [keep t ?_]
      · exact h1
      · intro hd'
        rcases Nat.lt_or_gt_of_ne e with h | h
        · exact r.ok.uniq j i o' o t ho' ho h hd hd'
        · exact r.ok.uniq i j o o' t ho ho' h hd' hd
end
end Go.Aw
