/- What a log gives back behind a crash: the plain law. -/
import Derived.Test.YtfdopoijhjbamaaDoorO7
namespace Go.Proofs.YtfdopoijhjbamaaDoor
set_option maxRecDepth 100000
set_option linter.unusedSimpArgs false
set_option linter.unusedVariables false
theorem openF_nil (n k : Nat) : openF n k [] = ([], 0) := openF_nf rfl
theorem cut_app {c : UInt8} {u w : List UInt8} (h : (cutF c u).2.2 = true) : cutF c (u ++ w) = ((cutF c u).1, (cutF c u).2.1 ++ w, true) := by
  have := cutF_yes c u h
  conv => lhs; rw [this]
  rw [List.append_assoc, List.cons_append, cutF_app c _ _ (cutF_not c u)]
theorem cut_no_app {c : UInt8} {u w : List UInt8} (h : (cutF c u).2.2 = false) (hw : c ∉ w) : (cutF c (u ++ w)).2.2 = false := by
  rw [cutF_found] at h ⊢
  simp only [decide_eq_false_iff_not, List.mem_append, not_or] at h ⊢
  exact ⟨h, hw⟩
/-- The steps of openF. -/
theorem openF_cases (n k : Nat) (s : List UInt8) : openF (n + 1) k s = ([], 0) ∨ ∃ e, (cutF 10 s).2.2 = true ∧ accF k (cutF 10 s).1 = some e ∧ openF (n + 1) k s = (e :: (openF n (k + 1) (cutF 10 s).2.1).1, (cutF 10 s).1.length + 1 + (openF n (k + 1) (cutF 10 s).2.1).2) := by
  cases hc : (cutF 10 s).2.2 with
  | false => exact .inl (openF_nf hc)
  | true =>
    cases ha : accF k (cutF 10 s).1 with
    | none => exact .inl (openF_bad ha)
    | some e => exact .inr ⟨e, rfl, rfl, openF_next hc ha⟩
theorem openF_app : ∀ (n k : Nat) (u w : List UInt8), (openF n k u).2 = u.length → openF n k (u ++ w) = ((openF n k u).1 ++ (openF (n - (openF n k u).1.length) (k + (openF n k u).1.length) w).1, u.length + (openF (n - (openF n k u).1.length) (k + (openF n k u).1.length) w).2)
  | 0, k, u, w, h => by
    have : u = [] := List.length_eq_zero_iff.1 (by simpa [openF] using h.symm)
    subst this
    simp [openF]
  | n + 1, k, u, w, h => by
    rcases openF_cases n k u with h1 | ⟨e, hc, ha, h1⟩
    · rw [h1] at h
      have : u = [] := List.length_eq_zero_iff.1 h.symm
      subst this
      rw [h1]; simp
    · have hl := congrArg List.length (cutF_yes _ _ hc)
      simp only [List.length_append, List.length_cons] at hl
      rw [h1] at h
      dsimp only at h
      have ih := openF_app n (k + 1) (cutF 10 u).2.1 w (by omega)
      have h2 : openF (n + 1) k (u ++ w) = (e :: (openF n (k + 1) ((cutF 10 u).2.1 ++ w)).1, (cutF 10 u).1.length + 1 + (openF n (k + 1) ((cutF 10 u).2.1 ++ w)).2) := by
        have := openF_next (n := n) (k := k) (s := u ++ w) (e := e) (by rw [cut_app hc]) (by rw [cut_app hc]; exact ha)
        rw [cut_app hc] at this
        exact this
      rw [h2, h1, ih]
      dsimp only
      rw [show n + 1 - (e :: (openF n (k + 1) (cutF 10 u).2.1).1).length = n - (openF n (k + 1) (cutF 10 u).2.1).1.length by simp, show k + (e :: (openF n (k + 1) (cutF 10 u).2.1).1).length = k + 1 + (openF n (k + 1) (cutF 10 u).2.1).1.length by simp; omega]
      refine Prod.ext (by simp) ?_
      dsimp only; omega
theorem openF_tail : ∀ (n k : Nat) (u w : List UInt8), (10 : UInt8) ∉ w → openF n k (u ++ w) = openF n k u
  | 0, k, u, w, h => rfl
  | n + 1, k, u, w, h => by
    cases hc : (cutF 10 u).2.2 with
    | false => rw [openF_nf hc, openF_nf (cut_no_app hc h)]
    | true =>
      cases ha : accF k (cutF 10 u).1 with
      | none => rw [openF_bad ha, openF_bad (by rw [cut_app hc]; exact ha)]
      | some e =>
        have h2 := openF_next (n := n) (k := k) (s := u ++ w) (e := e) (by rw [cut_app hc]) (by rw [cut_app hc]; exact ha)
        rw [cut_app hc] at h2
        rw [h2, openF_next hc ha, openF_tail n (k + 1) _ w h]
theorem take_line {s a r : List UInt8} {z : UInt8} (h : s = a ++ z :: r) (q : Nat) : s.take (a.length + 1 + q) = a ++ z :: r.take q := by
  subst h
  rw [List.take_append, List.take_of_length_le (by omega), show a.length + 1 + q - a.length = q + 1 by omega, List.take_succ_cons]
theorem openF_take : ∀ (n k : Nat) (s : List UInt8), openF n k (s.take (openF n k s).2) = openF n k s
  | 0, k, s => rfl
  | n + 1, k, s => by
    rcases openF_cases n k s with h1 | ⟨e, hc, ha, h1⟩
    · rw [h1, List.take_zero, openF_nil]
    · have hs := cutF_yes _ _ hc
      have ih := openF_take n (k + 1) (cutF 10 s).2.1
      rw [h1]
      dsimp only
      have ht : s.take ((cutF 10 s).1.length + 1 + (openF n (k + 1) (cutF 10 s).2.1).2) = (cutF 10 s).1 ++ 10 :: (cutF 10 s).2.1.take (openF n (k + 1) (cutF 10 s).2.1).2 := take_line hs _
      have hc2 := cutF_app 10 ((cutF 10 s).2.1.take (openF n (k + 1) (cutF 10 s).2.1).2) (cutF 10 s).1 (cutF_not 10 s)
      have h2 := openF_next (n := n) (k := k) (s := (cutF 10 s).1 ++ 10 :: (cutF 10 s).2.1.take (openF n (k + 1) (cutF 10 s).2.1).2) (e := e) (by rw [hc2]) (by rw [hc2]; exact ha)
      rw [ht, h2, hc2]
      dsimp only
      rw [ih]
theorem openF_pre : ∀ (n k j : Nat) (s : List UInt8), (openF n k (s.take j)).1 <+: (openF n k s).1
  | 0, k, j, s => by simp [openF]
  | n + 1, k, j, s => by
    rcases openF_cases n k (s.take j) with h1 | ⟨e, hc, ha, h1⟩
    · rw [h1]; exact List.nil_prefix
    · have h2 := cut_app (w := s.drop j) hc
      rw [List.take_append_drop] at h2
      have h3 := openF_next (n := n) (k := k) (s := s) (e := e) (by rw [h2]) (by rw [h2]; exact ha)
      rw [h2] at h3
      rw [h1, h3]
      dsimp only
      have hl := congrArg List.length (cutF_yes _ _ hc)
      have ih := openF_pre n (k + 1) (cutF 10 (s.take j)).2.1.length ((cutF 10 (s.take j)).2.1 ++ s.drop j)
      rw [List.take_left] at ih
      exact (List.prefix_cons_inj e).2 ih
theorem line_low {k : Int} {e : Rc} (hk : 0 ≤ k) (h : okRc e = true) : ∀ y ∈ lineF k e, y.toNat ≤ 126 := by
  intro y hy
  simp only [okRc, okQ, okA, Bool.and_eq_true] at h
  have h1 := List.all_eq_true.1 h.1.1.1.2
  have h2 := List.all_eq_true.1 h.2.1.2
  have dig : ∀ {n : Int}, 0 ≤ n → y ∈ Lib.itoa n → y.toNat ≤ 126 := fun hn hm => by have := itoa_digit hn y hm; omega
  have okb : okB y = true → y.toNat ≤ 126 := fun h => by simp only [okB, Bool.and_eq_true, decide_eq_true_eq] at h; exact h.2
  have hb := sumF_bd (Lib.itoa k ++ 32 :: (e.q ++ 64 :: e.a))
  simp only [lineF, sealF, List.mem_append, List.mem_cons, List.not_mem_nil, or_false] at hy
  rcases hy with ((h | rfl | h | rfl | h) | rfl | h) | rfl
  · exact dig hk h
  · decide
  · exact okb (h1 y h)
  · decide
  · exact okb (h2 y h)
  · decide
  · exact dig hb.1 h
  · decide
theorem openF_low : ∀ (n k : Nat) (s : List UInt8), (openF n k s).2 = s.length → ∀ y ∈ s, y.toNat ≤ 126
  | 0, k, s, h, y, hy => by
    have : s = [] := List.length_eq_zero_iff.1 (by simpa [openF] using h.symm)
    subst this; cases hy
  | n + 1, k, s, h, y, hy => by
    rcases openF_cases n k s with h1 | ⟨e, hc, ha, h1⟩
    · rw [h1] at h
      have : s = [] := List.length_eq_zero_iff.1 h.symm
      subst this; cases hy
    · have hs := cutF_yes _ _ hc
      have hl := congrArg List.length hs
      simp only [List.length_append, List.length_cons] at hl
      rw [h1] at h
      dsimp only at h
      obtain ⟨ho, hll⟩ := (accF_some (by omega)).1 ha
      have hlow := line_low (k := k) (by omega) ho
      rw [hll] at hlow
      rw [hs] at hy
      rcases List.mem_append.1 hy with h2 | h2
      · exact hlow y (List.mem_append_left _ h2)
      · rcases List.mem_cons.1 h2 with rfl | h2
        · decide
        · exact openF_low n (k + 1) _ (by omega) y h2
theorem hurt_last {l : List UInt8} (h : 0 < l.length) : hurtF l = l.take (l.length - 1) ++ [255 - l.getD (l.length - 1) 0] := by
  unfold hurtF
  rw [List.set_eq_take_append_cons_drop, if_pos (by omega), List.drop_of_length_le (by omega)]
/-- What is recovered: no less than what is durable, no more than what is pending. -/
theorem recover {x : Lg} {k : Nat} {c : Bool} (hv : validLog x = true) (hk : k ≤ x.n.length) : x.p.length ≤ (logF (leftF x k c)).2 ∧ (logF (leftF x k c)).1 <+: (logF (x.p ++ x.n)).1 := by
  unfold validLog at hv
  simp only [Bool.and_eq_true, decide_eq_true_eq] at hv
  obtain ⟨⟨h1, h2⟩, h3⟩ := hv
  have hp : (openF 60 0 x.p).2 = x.p.length := by have : (logF x.p).2 = x.p.length := by omega
                                                  exact this
  have hlow := openF_low 60 0 (x.p ++ x.n) (by have : (logF (x.p ++ x.n)).2 = (x.p ++ x.n).length := by rw [List.length_append]; omega
                                               exact this)
  have key : ∀ t : List UInt8, (openF (60 - (openF 60 0 x.p).1.length) (0 + (openF 60 0 x.p).1.length) t).1 <+: (openF (60 - (openF 60 0 x.p).1.length) (0 + (openF 60 0 x.p).1.length) x.n).1 → x.p.length ≤ (logF (x.p ++ t)).2 ∧ (logF (x.p ++ t)).1 <+: (logF (x.p ++ x.n)).1 := fun t ht => by
    unfold logF
    rw [openF_app 60 0 x.p t hp, openF_app 60 0 x.p x.n hp]
    exact ⟨Nat.le_add_right _ _, (List.prefix_append_right_inj _).2 ht⟩
  unfold leftF
  split
  · rename_i hc
    simp only [Bool.and_eq_true, decide_eq_true_eq] at hc
    refine key _ ?_
    have hl : (x.n.take k).length = k := by rw [List.length_take]; omega
    rw [hurt_last (by omega), openF_tail _ _ _ _ ?_, List.take_take]
    · exact openF_pre _ _ _ _
    · obtain ⟨y, hy⟩ : ∃ y, (x.n.take k)[(x.n.take k).length - 1]? = some y := ⟨_, List.getElem?_eq_getElem (by omega)⟩
      have hm : y ∈ x.p ++ x.n := List.mem_append_right _ (List.mem_of_mem_take (List.mem_of_getElem? hy))
      have := hlow y hm
      rw [List.getD_eq_getElem?_getD, hy]
      simp only [Option.getD_some, List.mem_singleton]
      intro e
      have h8 := sub8 y
      rw [← e] at h8
      have : ((10 : UInt8).toNat : Int) = 10 := by decide
      omega
  · exact key _ (openF_pre _ _ _ _)
theorem left_len {x : Lg} {k : Nat} {c : Bool} (hk : k ≤ x.n.length) : (leftF x k c).length = x.p.length + k := by
  have hl : (x.n.take k).length = k := by rw [List.length_take]; omega
  unfold leftF hurtF
  split
  · rw [List.length_append, List.length_set, hl]
  · rw [List.length_append, hl]
/-- The recovered log holds. -/
theorem recover_valid (s : List UInt8) : validLog ⟨s.take (logF s).2, [], (logF s).1.length⟩ = true ∧ (logF (s.take (logF s).2 ++ [])).1 = (logF s).1 := by
  have h1 : logF (s.take (logF s).2) = logF s := openF_take 60 0 s
  have h2 := logF_le s
  unfold validLog
  dsimp only
  rw [List.append_nil, h1]
  refine ⟨?_, rfl⟩
  rw [List.length_take, Nat.min_eq_left h2]
  simp
end Go.Proofs.YtfdopoijhjbamaaDoor
