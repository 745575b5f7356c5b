/- A region that draws its order runs as in the text's order: the theorem. -/
import Derived.Test.YtfdopoijhjbamaaDoorAwP
namespace Go.Aw
set_option linter.unusedVariables false
set_option linter.unusedSimpArgs false

section
variable {X : Cx} {N : FK} {S : St} {ops : Array Oper} {Es : Nat → Env} {Hs : Nat → Heap} {rs : Nat → Option AT} {ms : Nat → Nat}

/-- Memory, some operations being through: those before s all, those from f on none that count. -/
structure JH (X : Cx) (S : St) (ops : Array Oper) (Hs : Nat → Heap) (ms : Nat → Nat) (ls : Nat → Bool) (s f : Nat) (ι : Inj) (w : World) : Prop where
  sf : s ≤ f
  fn : f ≤ ops.size
  pre : ∀ j, j < s → ms j = 1 ∨ ms j = 2 → ls j = true
  post : ∀ j, f ≤ j → j < ops.size → ms j = 1 ∨ ms j = 2 → ls j = false
  mid : ∀ j, s ≤ j → j < f → ms j ≠ 2
  isf : f = ops.size ∨ ms f = 2
  good : Good X S ι (Hs f) w
  c1 : ∀ i, s ≤ i → i < f → ls i = false → ∀ m, (Hs i).length ≤ m → m < (Hs (i + 1)).length → ι (.l m) = none
  wf : ∀ q, s ≤ q → q ≤ f → ∀ m L k, m < (Hs q).length → ι (.l m) = some L → hget X (Hs f) (.l m) = some k → ∀ c ∈ k.cells, Lo (Hs q).length c.ids
  h0 : S.H.length ≤ (Hs 0).length

theorem JH.set {ls ls' : Nat → Bool} {s f : Nat} {ι : Inj} {w : World} (J : JH X S ops Hs ms ls s f ι w) (h : ∀ j, ls j = true → ls' j = true) (h' : ∀ j, f ≤ j → ms j = 1 ∨ ms j = 2 → ls' j = true → ls j = true) : JH X S ops Hs ms ls' s f ι w :=
  ⟨J.sf, J.fn, fun j hj hm => h j (J.pre j hj hm), (fun j hj hn hm => Bool.eq_false_iff.2 fun hl => by have := h' j hj hm hl; rw [J.post j hj hn hm] at this; cases this), J.mid, J.isf, J.good,
    (fun i h1 h2 h3 => J.c1 i h1 h2 (Bool.eq_false_iff.2 fun hl => by rw [h i hl] at h3; cases h3)), J.wf, J.h0⟩

/-- A new stretch. -/
theorem JH.fresh (r : Run X N ops Es Hs rs ms) {ls : Nat → Bool} {ι : Inj} {w : World} {s : Nat} (h0 : S.H.length ≤ (Hs 0).length) (hs : s ≤ ops.size) (hg : Good X S ι (Hs s) w) (hp : ∀ j, j < s → ms j = 1 ∨ ms j = 2 → ls j = true)
    (hq : ∀ f, s ≤ f → f < ops.size → ms f = 2 → (∀ j, s ≤ j → j < f → ms j ≠ 2) → ∀ j, f ≤ j → j < ops.size → ms j = 1 ∨ ms j = 2 → ls j = false) : ∃ f, JH X S ops Hs ms ls s f ι w := by
  have hex : ∃ f, s ≤ f ∧ f ≤ ops.size ∧ (∀ j, s ≤ j → j < f → ms j ≠ 2) ∧ (f = ops.size ∨ ms f = 2) := by
    have key : ∀ d f, s ≤ f → f ≤ ops.size → ops.size - f = d → (∀ j, s ≤ j → j < f → ms j ≠ 2) → ∃ f, s ≤ f ∧ f ≤ ops.size ∧ (∀ j, s ≤ j → j < f → ms j ≠ 2) ∧ (f = ops.size ∨ ms f = 2) := by
      intro d
      induction d with
      | zero => exact fun f h1 h2 h3 h4 => ⟨f, h1, h2, h4, .inl (by omega)⟩
      | succ d ih =>
        intro f h1 h2 h3 h4
        by_cases e : ms f = 2
        · exact ⟨f, h1, h2, h4, .inr e⟩
        · exact ih (f + 1) (by omega) (by omega) (by omega) (fun j hj hj' => by
            by_cases e' : j = f
            · subst e'; exact e
            · exact h4 j hj (by omega))
    exact key _ s (Nat.le_refl _) hs rfl (fun j h1 h2 => by omega)
  obtain ⟨f, h1, h2, h3, h4⟩ := hex
  obtain ⟨R, hR⟩ := r.pre h1 h2 h3
  refine ⟨f, h1, h2, hp, ?_, h3, h4, ?_, ?_, ?_, h0⟩
  · intro j hj hjn hm
    rcases h4 with h4 | h4
    · omega
    · exact hq f h1 (by omega) h4 h3 j hj hjn hm
  · rw [hR]; exact hg.ext
  · intro i hi hif _ m hm _
    exact hg.none m (Nat.le_trans (r.mono hi (by omega)) hm)
  · intro q hq1 hq2 m L k hm hL hk c hc m' hm'
    have hms : m < (Hs s).length := Nat.lt_of_not_le fun h => by rw [hg.none m h] at hL; cases hL
    rw [hR, hget_app (fun n e => by cases e; exact hms)] at hk
    obtain ⟨arr, t, fr, a1, a2, a3, a4, a5, a6⟩ := hg.inv.blk _ L k hL hk
    obtain ⟨j, hj, rfl⟩ := List.mem_iff_getElem.1 hc
    obtain ⟨v, _, hv⟩ := a6 j _ (List.getElem?_eq_getElem hj)
    obtain ⟨M, hM⟩ := hv.mapped hm'
    have : m' < (Hs s).length := Nat.lt_of_not_le fun h => by rw [hg.none m' h] at hM; cases hM
    exact Nat.lt_of_lt_of_le this (r.mono hq1 (by omega))

/-- An operation that reads or makes memory, at its turn. -/
theorem JH.mem (r : Run X N ops Es Hs rs ms) {ls : Nat → Bool} {s f i : Nat} {ι ι' : Inj} {w w' : World} (J : JH X S ops Hs ms ls s f ι w) (h1 : s ≤ i) (h2 : i < f) (hi : ls i = false) (hst : Step X (rst ι (Hs i).length) (Hs i) w ι' (Hs (i + 1)) w') :
    ∃ ι2, (∀ b L, ι b = some L → ι2 b = some L) ∧ (∀ b L, ι' b = some L → ι2 b = some L) ∧ (∀ m, (Hs (i + 1)).length ≤ m → ι' (.l m) = none) ∧ JH X S ops Hs ms (fun j => Nat.beq j i || ls j) s f ι2 w' := by
  have hin : i < ops.size := by have := J.fn; omega
  obtain ⟨R0, hR0⟩ := r.pre (i := i) (j := f) (by omega) J.fn (fun q a b => J.mid q (by omega) b)
  obtain ⟨R1, hR1⟩ := r.pre (i := i + 1) (j := f) (by omega) J.fn (fun q a b => J.mid q (by omega) b)
  have hle := r.len hin
  have hsle : S.H.length ≤ (Hs i).length := Nat.le_trans J.h0 (r.mono (by omega) (by omega))
  have hff : (Hs (i + 1)).length ≤ (Hs f).length := r.mono (by omega) J.fn
  -- the two ways of naming agree
  have hag : ∀ m, m < (Hs i).length → ι' (.l m) = ι (.l m) := fun m hm => by
    rw [hst.agree (.l m) (fun n e => by cases e; exact .inl hm), rst_lt hm]
  have hgl : ∀ g, ι' (.g g) = ι (.g g) := fun g => by rw [hst.agree (.g g) (fun n e => by cases e)]; rfl
  have hno : ∀ m, (Hs (i + 1)).length ≤ m → ι' (.l m) = none := fun m hm => by
    rw [hst.agree (.l m) (fun n e => by cases e; exact .inr hm), rst_ge (by omega)]
  have hmid : ∀ m, (Hs i).length ≤ m → m < (Hs (i + 1)).length → ι (.l m) = none := J.c1 i h1 h2 hi
  let ι2 : Inj := fun | .l m => if (Hs i).length ≤ m ∧ m < (Hs (i + 1)).length then ι' (.l m) else ι (.l m) | .g g => ι (.g g)
  have e2mid : ∀ m, (Hs i).length ≤ m → m < (Hs (i + 1)).length → ι2 (.l m) = ι' (.l m) := fun m a b => by simp only [ι2]; rw [if_pos ⟨a, b⟩]
  have e2out : ∀ m, (m < (Hs i).length ∨ (Hs (i + 1)).length ≤ m) → ι2 (.l m) = ι (.l m) := fun m a => by simp only [ι2]; rw [if_neg (by omega)]
  have e2g : ∀ g, ι2 (.g g) = ι (.g g) := fun g => rfl
  have up : ∀ b L, ι b = some L → ι2 b = some L := by
    intro b L hL
    cases b with
    | g g => exact hL
    | l m =>
      by_cases a : (Hs i).length ≤ m ∧ m < (Hs (i + 1)).length
      · rw [hmid m a.1 a.2] at hL; cases hL
      · rw [e2out m (by omega)]; exact hL
  have up' : ∀ b L, ι' b = some L → ι2 b = some L := by
    intro b L hL
    cases b with
    | g g => rw [e2g, ← hgl]; exact hL
    | l m =>
      by_cases a : m < (Hs i).length
      · rw [e2out m (.inl a), ← hag m a]; exact hL
      · by_cases b : m < (Hs (i + 1)).length
        · rw [e2mid m (by omega) b]; exact hL
        · rw [hno m (by omega)] at hL; cases hL
  -- who a name is: told by the step, or as before
  have low : ∀ m k, m < (Hs (i + 1)).length → hget X (Hs f) (.l m) = some k → hget X (Hs (i + 1)) (.l m) = some k := by
    intro m k hm hk
    rw [hR1, hget_app (fun n e => by cases e; exact hm)] at hk; exact hk
  have low0 : ∀ m k, m < (Hs i).length → hget X (Hs f) (.l m) = some k → hget X (Hs i) (.l m) = some k := by
    intro m k hm hk
    rw [hR0, hget_app (fun n e => by cases e; exact hm)] at hk; exact hk
  have up0 : ∀ m k, hget X (Hs i) (.l m) = some k → hget X (Hs f) (.l m) = some k := by
    intro m k hk
    have hm := hget_lt hk
    rw [hR0, hget_app (fun n e => by cases e; exact hm)]; exact hk
  have who : ∀ b L k, ι2 b = some L → hget X (Hs f) b = some k → (ι' b = some L ∧ hget X (Hs (i + 1)) b = some k) ∨ (ι b = some L ∧ ∃ m, b = .l m ∧ (Hs (i + 1)).length ≤ m) := by
    intro b L k hb hk
    cases b with
    | g g => exact .inl ⟨by rw [hgl]; exact hb, hk⟩
    | l m =>
      by_cases a : m < (Hs i).length
      · rw [e2out m (.inl a), ← hag m a] at hb
        exact .inl ⟨hb, low m k (by omega) hk⟩
      · by_cases b : m < (Hs (i + 1)).length
        · rw [e2mid m (by omega) b] at hb
          exact .inl ⟨hb, low m k b hk⟩
        · rw [e2out m (.inr (by omega))] at hb
          exact .inr ⟨hb, m, rfl, by omega⟩
  have own0 : ∀ β, OwnAt X (rst ι (Hs i).length) (Hs i) β → OwnAt X ι (Hs f) β := by
    rintro β ⟨n, L, k, a1, a2, a3, a4⟩
    exact ⟨n, L, k, rst_sub a1, up0 n k a2, a3, a4⟩
  -- what is told as before stands as before
  have far : ∀ m L k, (Hs (i + 1)).length ≤ m → ι (.l m) = some L → hget X (Hs f) (.l m) = some k → L.blk < w.heap.size ∧ ¬ OwnAt X (rst ι (Hs i).length) (Hs i) L.blk := by
    intro m L k hm hL hk
    obtain ⟨arr, t, fr, a1, _⟩ := J.good.inv.blk _ L k hL hk
    refine ⟨(Array.getElem?_eq_some_iff.1 a1).1, ?_⟩
    rintro ⟨n, L', k', b1, b2, b3, b4⟩
    have := J.good.inv.sep (.l n) (.l m) L' L k' k (rst_sub b1) hL (up0 n k' b2) hk b3 b4
    cases this
    have := hget_lt b2
    omega
  -- nothing new lies where something far stands
  have apart : ∀ b L k m L' k', ι' b = some L → hget X (Hs (i + 1)) b = some k → (Hs (i + 1)).length ≤ m → ι (.l m) = some L' → hget X (Hs f) (.l m) = some k' → (k.own = true ∨ k'.own = true) → L.blk ≠ L'.blk := by
    intro b L k m L' k' hb hk hm hL' hk' hor heq
    obtain ⟨f1, f2⟩ := far m L' k' hm hL' hk'
    have old : ι b = some L → hget X (Hs f) b = some k → (∀ q, b = .l q → q < (Hs i).length) → False := by
      intro c1 c2 c3
      rcases hor with ho | ho
      · have := J.good.inv.sep b (.l m) L L' k k' c1 hL' c2 hk' ho heq
        have := c3 m this
        omega
      · have := J.good.inv.sep (.l m) b L' L k' k hL' c1 hk' c2 ho heq.symm
        have := c3 m this.symm
        omega
    cases b with
    | g g => exact old (by rw [← hgl]; exact hb) hk (fun q e => by cases e)
    | l q =>
      by_cases a : q < (Hs i).length
      · refine old (by rw [← hag q a]; exact hb) ?_ (fun q' e => by cases e; exact a)
        rw [hR1, hget_app (fun n e => by cases e; omega)]; exact hk
      · have hq := hget_lt hk
        rcases hst.new q L (by omega) hq hb with hn | hn
        · omega
        · rw [heq] at hn; exact f2 hn
  have keepOwn : ∀ β, OwnAt X (rst ι (Hs i).length) (Hs i) β → S.w.heap.size ≤ β ∨ OwnAt X S.ι S.H β := fun β h => J.good.ownAt (own0 β h)
  refine ⟨ι2, up, up', hno, ⟨J.sf, J.fn, fun j hj hm => by simp [J.pre j hj hm], ?_, J.mid, J.isf, ?_, ?_, ?_, J.h0⟩⟩
  · intro j hj hjn hm
    have := J.post j hj hjn hm
    have hne : Nat.beq j i = false := by
      cases hb : Nat.beq j i with
      | false => rfl
      | true => have := Nat.eq_of_beq_eq_true hb; omega
    simp [this, hne]
  · refine ⟨⟨hst.inv.fix, fun n => J.good.inv.glo n, ?_, ?_, ?_⟩, J.good.le, ?_, ?_, ?_, ⟨hst.fr.os.trans J.good.fr.os, hst.fr.tape.trans J.good.fr.tape, hst.fr.output.trans J.good.fr.output, Nat.le_trans J.good.fr.size hst.fr.size, ?_⟩⟩
    · intro b L k hb hk
      rcases who b L k hb hk with ⟨c1, c2⟩ | ⟨c1, m, rfl, c2⟩
      · obtain ⟨arr, t, fr, a1, a2, a3, a4, a5, a6⟩ := hst.inv.blk b L k c1 c2
        exact ⟨arr, t, fr, a1, a2, a3, a4, a5, fun j c hj => let ⟨v, v1, v2⟩ := a6 j c hj; ⟨v, v1, v2.mono up'⟩⟩
      · obtain ⟨arr, t, fr, a1, a2, a3, a4, a5, a6⟩ := J.good.inv.blk _ L k c1 hk
        obtain ⟨f1, f2⟩ := far m L k c2 c1 hk
        exact ⟨arr, t, fr, by rw [hst.fr.keep _ f1 f2]; exact a1, a2, a3, a4, a5, fun j c hj => let ⟨v, v1, v2⟩ := a6 j c hj; ⟨v, v1, v2.mono up⟩⟩
    · intro b L k hb hk ho
      rcases who b L k hb hk with ⟨c1, c2⟩ | ⟨c1, m, rfl, c2⟩
      · exact hst.inv.ownK b L k c1 c2 ho
      · exact J.good.inv.ownK _ L k c1 hk ho
    · intro b b' L L' k k' hb hb' hk hk' ho heq
      rcases who b L k hb hk with ⟨c1, c2⟩ | ⟨c1, m, rfl, c2⟩
      · rcases who b' L' k' hb' hk' with ⟨d1, d2⟩ | ⟨d1, m', rfl, d2⟩
        · exact hst.inv.sep b b' L L' k k' c1 d1 c2 d2 ho heq
        · exact absurd heq (apart b L k m' L' k' c1 c2 d2 d1 hk' (.inl ho))
      · rcases who b' L' k' hb' hk' with ⟨d1, d2⟩ | ⟨d1, m', rfl, d2⟩
        · exact absurd heq.symm (apart b' L' k' m L k d1 d2 c2 c1 hk (.inr ho))
        · exact J.good.inv.sep _ _ L L' k k' c1 d1 hk hk' ho heq
    · intro b hb
      rw [← J.good.old b hb]
      cases b with
      | g g => rfl
      | l m => exact e2out m (.inl (Nat.lt_of_lt_of_le (hb m rfl) hsle))
    · intro n hn
      rw [e2out n (.inr (by omega))]
      exact J.good.none n hn
    · intro n L hn hL
      by_cases a : (Hs i).length ≤ n ∧ n < (Hs (i + 1)).length
      · rw [e2mid n a.1 a.2] at hL
        rcases hst.new n L a.1 a.2 hL with h | h
        · exact .inl (Nat.le_trans J.good.fr.size h)
        · exact keepOwn _ h
      · rw [e2out n (by omega)] at hL
        exact J.good.new n L hn hL
    · intro β hβ hno'
      rw [hst.fr.keep β (Nat.lt_of_lt_of_le hβ J.good.fr.size) (fun ho => by
        rcases keepOwn β ho with h | h
        · omega
        · exact hno' h)]
      exact J.good.fr.keep β hβ hno'
  · intro j hj hjf hl m hm hm'
    simp only [Bool.or_eq_false_iff] at hl
    have hne : j ≠ i := fun e => by subst e; simp at hl
    have hjn := J.fn
    rw [e2out m ?_]
    · exact J.c1 j hj hjf hl.2 m hm hm'
    · rcases Nat.lt_or_gt_of_ne hne with h | h
      · have := r.mono (i := j + 1) (j := i) (by omega) (by omega); omega
      · have := r.mono (i := i + 1) (j := j) (by omega) (by omega); omega
  · intro q hq1 hq2 m L k hm hL hk c hc
    have hfn := J.fn
    by_cases a : (Hs i).length ≤ m ∧ m < (Hs (i + 1)).length
    · rw [e2mid m a.1 a.2] at hL
      have hqi : i + 1 ≤ q := by
        by_cases e : i + 1 ≤ q
        · exact e
        · have := r.mono (i := q) (j := i) (by omega) (by omega); omega
      obtain ⟨arr, t, fr, a1, a2, a3, a4, a5, a6⟩ := hst.inv.blk _ L k hL (low m k a.2 hk)
      obtain ⟨j, hj, rfl⟩ := List.mem_iff_getElem.1 hc
      obtain ⟨v, _, hv⟩ := a6 j _ (List.getElem?_eq_getElem hj)
      intro m' hm'
      obtain ⟨M, hM⟩ := hv.mapped hm'
      have : m' < (Hs (i + 1)).length := Nat.lt_of_not_le fun h => by rw [hno m' h] at hM; cases hM
      exact Nat.lt_of_lt_of_le this (r.mono hqi (by omega))
    · rw [e2out m (by omega)] at hL
      exact J.wf q hq1 hq2 m L k hm hL hk c hc
end
end Go.Aw
