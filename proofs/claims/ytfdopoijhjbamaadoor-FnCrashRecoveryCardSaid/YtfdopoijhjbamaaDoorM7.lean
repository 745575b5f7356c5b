/- What the log holds: both readings of a line give the same. -/
import Derived.Test.YtfdopoijhjbamaaDoorM6
namespace Go.Proofs.YtfdopoijhjbamaaDoor
open Go.Aw Go.RowKit
set_option maxRecDepth 100000
set_option maxHeartbeats 1000000
set_option linter.unusedSimpArgs false
set_option linter.unusedVariables false
abbrev textF (k : Int) (e : Rc) : List UInt8 := Lib.itoa k ++ 32 :: (e.q ++ 64 :: e.a)
theorem line_cut {k : Int} {e : Rc} {s : List UInt8} (h0 : 0 ≤ k) (h : okRc e = true) (hl : lineF k e = s ++ [10]) : s = sealF (textF k e) ∧ cutF 35 s = (textF k e, Lib.itoa (sumF (textF k e)), true) := by
  have h1 : sealF (textF k e) = s := List.append_cancel_right hl
  subst h1
  exact ⟨rfl, seal_cut (text_35 h0 h)⟩
theorem readF_yes {k : Int} {e : Rc} {s : List UInt8} (h0 : 0 ≤ k) (h : accF k s = some e) : readF k s = (e, true) := by
  obtain ⟨ho, hl⟩ := (accF_some h0).1 h
  obtain ⟨-, hc⟩ := line_cut h0 ho hl
  have ht : (cutF 35 s).1 = textF k e := by rw [hc]
  have hr : (textF k e).drop (Lib.itoa k ++ [32]).length = e.q ++ 64 :: e.a := by
    rw [show textF k e = (Lib.itoa k ++ [32]) ++ (e.q ++ 64 :: e.a) by simp [textF], List.drop_left]
  have hq : (cutF 64 (e.q ++ 64 :: e.a)).1 = e.q := by rw [rest_cut ho]
  have hd : (e.q ++ 64 :: e.a).drop (e.q.length + 1) = e.a := by
    rw [show e.q ++ 64 :: e.a = (e.q ++ [64]) ++ e.a by simp, show e.q.length + 1 = (e.q ++ [64]).length by simp, List.drop_left]
  rw [readF_3 (e := e) rfl ht hr hq (by rw [hd]) _ (by simp), ho, hl]
  · simp
  · rw [show textF k e = (Lib.itoa k ++ [32]) ++ (e.q ++ 64 :: e.a) by simp [textF], List.take_left]
    simp
theorem readF_acc {k : Int} {s : List UInt8} (h : (readF k s).2 = true) : accF k s = some (readF k s).1 ∨ ¬ 0 ≤ k := by
  by_cases h0 : 0 ≤ k
  · left
    rw [accF_some h0]
    unfold readF at h ⊢
    split at h
    · cases h
    · rename_i h1
      split at h
      · cases h
      · rename_i h2
        rw [if_neg h1, if_neg h2]
        simp only [Bool.and_eq_true, beq_iff_eq] at h
        exact h
  · exact .inr h0
theorem readF_no {k : Int} {s : List UInt8} (h0 : 0 ≤ k) (h : (readF k s).2 = false) : accF k s = none := by
  cases ha : accF k s with
  | none => rfl
  | some e => rw [readF_yes h0 ha] at h; cases h
theorem readF_ok {k : Int} {s : List UInt8} (h0 : 0 ≤ k) (h : (readF k s).2 = true) : accF k s = some (readF k s).1 := (readF_acc h).resolve_right (fun h => h h0)
theorem text_len {k : Int} {e : Rc} (hk : 0 ≤ k) (hk2 : k ≤ 999999) (h : okRc e = true) : (textF k e).length ≤ 368 := by
  simp only [okRc, okQ, okA, Bool.and_eq_true, decide_eq_true_eq] at h
  have h1 := itoa_len hk hk2
  simp only [textF, List.length_append, List.length_cons]
  omega
theorem app_text {k : Int} {e : Rc} (hk : 0 ≤ k) (hk2 : k ≤ 999999) (h : okRc e = true) : appF (textF k e) = some (sealF (textF k e)) := by
  have h1 := text_len hk hk2 h
  have h2 := seal_len (textF k e)
  exact appF_ok (by omega) (by have := text_35 hk h; simpa using this) (by omega)
/-- What the implementation makes of a line. -/
theorem ver_yes {k : Int} {e : Rc} {s : List UInt8} (h0 : 0 ≤ k) (h1 : k ≤ 999999) (h : accF k s = some e) : verF s = some (textF k e) := by
  obtain ⟨ho, hl⟩ := (accF_some h0).1 h
  obtain ⟨he, hc⟩ := line_cut h0 ho hl
  have := verF_d (l := s) (by rw [hc]) (by rw [hc]; dsimp only; rw [app_text h0 h1 ho]; rfl) (by rw [hc]; dsimp only; rw [app_text h0 h1 ho]; exact he.symm)
  rw [hc] at this
  exact this
theorem impl_yes {k : Int} {e : Rc} {s t : List UInt8} (h0 : 0 ≤ k) (h1 : k ≤ 999999) (h : accF k s = some e) (ht : verF s = some t) : (⟨(cutF 64 (cutF 32 t).2.1).1, (cutF 64 (cutF 32 t).2.1).2.1⟩ : Rc) = e := by
  obtain ⟨ho, hl⟩ := (accF_some h0).1 h
  rw [ver_yes h0 h1 h] at ht
  obtain rfl := Option.some.inj ht
  rw [text_cut h0]
  dsimp only
  rw [rest_cut ho]
theorem openF_nf {n k : Nat} {s : List UInt8} (h : (cutF 10 s).2.2 = false) : openF n k s = ([], 0) := by
  cases n with
  | zero => rfl
  | succ n => simp only [openF, h]; rfl
theorem openF_bad {n k : Nat} {s : List UInt8} (h : accF k (cutF 10 s).1 = none) : openF n k s = ([], 0) := by
  cases n with
  | zero => rfl
  | succ n => simp only [openF, h]; split <;> rfl
theorem openF_next {n k : Nat} {s : List UInt8} {e : Rc} (h0 : (cutF 10 s).2.2 = true) (h : accF k (cutF 10 s).1 = some e) : openF (n + 1) k s = (e :: (openF n (k + 1) (cutF 10 s).2.1).1, (cutF 10 s).1.length + 1 + (openF n (k + 1) (cutF 10 s).2.1).2) := by
  simp only [openF, h0, h, if_true]
/-- Where a reading stands. -/
structure At (s : List UInt8) (xs : List Rc) (a : Nat) : Prop where
  hn : xs.length ≤ 60
  ha : a ≤ s.length
  hr : a ≤ 400 * xs.length
  all : ∀ e ∈ xs, okRc e = true
  eq : logF s = (xs ++ (openF (60 - xs.length) xs.length (s.drop a)).1, a + (openF (60 - xs.length) xs.length (s.drop a)).2)
theorem At.start (s : List UInt8) : At s [] 0 := ⟨by simp, by omega, by simp, by simp, by simp [logF]⟩
theorem At.full {s : List UInt8} {xs : List Rc} {a : Nat} (h : At s xs a) (hn : ¬ xs.length < 60) : logF s = (xs, a) := by
  have := h.hn
  rw [h.eq, show 60 - xs.length = 0 by omega]; simp [openF]
theorem At.nf {s : List UInt8} {xs : List Rc} {a : Nat} (h : At s xs a) (hc : (cutF 10 (s.drop a)).2.2 = false) : logF s = (xs, a) := by
  rw [h.eq, openF_nf hc]; simp
theorem At.bad {s : List UInt8} {xs : List Rc} {a : Nat} (h : At s xs a) (hc : accF (xs.length : Int) (cutF 10 (s.drop a)).1 = none) : logF s = (xs, a) := by
  rw [h.eq, openF_bad hc]; simp
theorem At.fin {s : List UInt8} {xs : List Rc} {a : Nat} (h : At s xs a) (hc : ¬ a < s.length) : logF s = (xs, a) := by
  refine h.nf ?_
  rw [List.drop_eq_nil_of_le (by omega)]; rfl
theorem drop_cut {s x y : List UInt8} {c : UInt8} {a : Nat} (h : s.drop a = x ++ c :: y) : s.drop (a + x.length + 1) = y := by
  rw [show a + x.length + 1 = a + (x.length + 1) by omega, ← List.drop_drop, h]
  simp
theorem At.next {s : List UInt8} {xs : List Rc} {a : Nat} {e : Rc} (h : At s xs a) (hn : xs.length < 60) (hc : (cutF 10 (s.drop a)).2.2 = true) (he : accF (xs.length : Int) (cutF 10 (s.drop a)).1 = some e) : At s (xs ++ [e]) (a + (cutF 10 (s.drop a)).1.length + 1) := by
  have hs := cutF_yes _ _ hc
  have hl := congrArg List.length hs
  simp only [List.length_drop, List.length_append, List.length_cons] at hl
  obtain ⟨ho, hll⟩ := (accF_some (by omega)).1 he
  have h4 := line_len (k := xs.length) (by omega) (by omega) ho
  rw [hll] at h4
  simp only [List.length_append, List.length_cons, List.length_nil] at h4
  have hr := h.hr
  have hd : s.drop (a + (cutF 10 (s.drop a)).1.length + 1) = (cutF 10 (s.drop a)).2.1 := drop_cut hs
  refine ⟨by simp; omega, by omega, by simp only [List.length_append, List.length_cons, List.length_nil]; omega, ?_, ?_⟩
  · intro x hx
    rcases List.mem_append.1 hx with hx | hx
    · exact h.all x hx
    · simp only [List.mem_singleton] at hx; subst hx; exact ho
  · have e1 := h.eq
    obtain ⟨m, hm⟩ : ∃ m, 60 - xs.length = m + 1 := ⟨59 - xs.length, by omega⟩
    rw [hm, openF_next hc he] at e1
    rw [e1, hd]
    have : 60 - (xs ++ [e]).length = m := by simp; omega
    rw [this]
    simp only [List.length_append, List.length_cons, List.length_nil, List.append_assoc, List.cons_append, List.nil_append, Nat.zero_add]
    congr 1
    omega
theorem At.len {s : List UInt8} {xs : List Rc} {a : Nat} (h : At s xs a) : xs.length ≤ 60 ∧ a ≤ s.length ∧ a ≤ 24000 := ⟨h.hn, h.ha, by have := h.hr; have := h.hn; omega⟩
theorem c41 {K : List (Nat × Go.Obj)} [hK : Nonempty (KOk K)] (H : Heap) {k : Int} {e : Rc} (h0 : 0 ≤ k) (h1 : k ≤ 999999) (he : okRc e = true) : ACalls (cx K) 41 [aI k, aR e] H (Vs (bs (lineF k e))) H := by
  have hk := itoa_lenI h0 (show k ≤ 2 ^ 62 by omega)
  have hl := text_len h0 h1 he
  have ha := app_text h0 h1 he
  have hs := seal_len (textF k e)
  have e1 : Lib.itoa k ++ [32] ++ e.q ++ [64] ++ e.a = textF k e := by simp
  simp only [textF, List.length_append, List.length_cons] at hl
  have hA : ∀ H', ACalls (cx K) 55 [aS (bs (Lib.itoa k ++ [32] ++ e.q ++ [64] ++ e.a))] H' (apR (some (sealF (textF k e)))) H' := fun H' => by
    rw [e1, ← ha]; exact c55 _ (by simp only [textF, List.length_append, List.length_cons]; omega)
  refine acalls0 Tryd.func41 rfl rfl (fun S hS hw => ?_)
  refine aw_seq ?_
  refine aw_region ?_
  refine rr_memL (r_boxL rfl rfl) rfl rfl rfl ?_
  refine rr_pure (rp rfl) rfl rfl rfl ?_
  refine rr_nil rfl ?_
  refine then_n ?_
  refine aw_seq ?_
  refine aw_region_draw ?_
  refine rr_pure (rp rfl) rfl rfl rfl ?_
  refine rr_read (r_callF rfl rfl rfl (c58 _ h0 (by omega))) rfl rfl rfl  ?_
  refine rr_pure (r_catB (b := [32]) rfl rfl rfl (by simp only [List.length_cons, List.length_nil]; omega)) rfl rfl rfl ?_
  refine rr_pure (rp rfl) rfl rfl rfl ?_
  first
    | refine rr_read (r_loadL rfl rfl rfl rfl rfl) rfl rfl rfl ?_
    | refine rr_read (r_loadA rfl rfl rfl (Rd.at (by assumption) (by assumption)) rfl) rfl rfl rfl ?_
  refine rr_pure (r_catB rfl rfl rfl (by (try simp only [List.length_append, List.length_cons, List.length_nil, List.length_take, List.length_drop]); omega)) rfl rfl rfl ?_
  refine rr_pure (r_catB (b := [64]) rfl rfl rfl (by simp only [List.length_append, List.length_cons, List.length_nil]; omega)) rfl rfl rfl ?_
  refine rr_pure (rp rfl) rfl rfl rfl ?_
  first
    | refine rr_read (r_loadL rfl rfl rfl rfl rfl) rfl rfl rfl ?_
    | refine rr_read (r_loadA rfl rfl rfl (Rd.at (by assumption) (by assumption)) rfl) rfl rfl rfl ?_
  refine rr_pure (r_catB rfl rfl rfl (by (try simp only [List.length_append, List.length_cons, List.length_nil, List.length_take, List.length_drop]); omega)) rfl rfl rfl ?_
  refine rr_read (r_callF rfl rfl rfl (hA _)) rfl rfl rfl  ?_
  refine rr_pure (rp rfl) rfl rfl rfl ?_
  refine rr_pure (rp rfl) rfl rfl rfl ?_
  refine rr_pure (rp rfl) rfl rfl rfl ?_
  refine rr_pure (rp rfl) rfl rfl rfl ?_
  refine rr_pure (rp rfl) rfl rfl rfl ?_
  refine rr_nil (by kernel_rfl) ?_
  refine then_n ?_
  refine aw_seq ?_
  refine aw_region ?_
  refine rr_pure (rp rfl) rfl rfl rfl ?_
  refine rr_pure (r_catB (a := sealF (textF k e)) (b := [10]) rfl rfl rfl (by simp only [textF, List.length_append, List.length_cons, List.length_nil] at hs ⊢; omega)) rfl rfl rfl ?_
  refine rr_pure (rp rfl) rfl rfl rfl ?_
  refine rr_nil rfl ?_
  refine then_n ?_
  refine aw_ret ?_
  exact fin_s rfl (by simp [lineF, textF])
end Go.Proofs.YtfdopoijhjbamaaDoor
