/- Reading a line. -/
import Derived.Test.YtfdopoijhjbamaaDoorM5
namespace Go.Proofs.YtfdopoijhjbamaaDoor
open Go.Aw Go.RowKit
set_option maxRecDepth 100000
set_option maxHeartbeats 1000000
set_option linter.unusedSimpArgs false
set_option linter.unusedVariables false
/-- What the reference makes of a line. -/
def readF (k : Int) (l : List UInt8) : Rc × Bool :=
  if decide ((cutF 35 l).1.length < (Lib.itoa k ++ [32]).length) || !((cutF 35 l).1.take (Lib.itoa k ++ [32]).length == Lib.itoa k ++ [32]) then (⟨[], []⟩, false)
  else if (cutF 64 ((cutF 35 l).1.drop (Lib.itoa k ++ [32]).length)).1.length = ((cutF 35 l).1.drop (Lib.itoa k ++ [32]).length).length then (⟨[], []⟩, false)
  else (⟨(cutF 64 ((cutF 35 l).1.drop (Lib.itoa k ++ [32]).length)).1, ((cutF 35 l).1.drop (Lib.itoa k ++ [32]).length).drop ((cutF 64 ((cutF 35 l).1.drop (Lib.itoa k ++ [32]).length)).1.length + 1)⟩,
    okRc ⟨(cutF 64 ((cutF 35 l).1.drop (Lib.itoa k ++ [32]).length)).1, ((cutF 35 l).1.drop (Lib.itoa k ++ [32]).length).drop ((cutF 64 ((cutF 35 l).1.drop (Lib.itoa k ++ [32]).length)).1.length + 1)⟩ &&
    (lineF k ⟨(cutF 64 ((cutF 35 l).1.drop (Lib.itoa k ++ [32]).length)).1, ((cutF 35 l).1.drop (Lib.itoa k ++ [32]).length).drop ((cutF 64 ((cutF 35 l).1.drop (Lib.itoa k ++ [32]).length)).1.length + 1)⟩ == l ++ [10]))
theorem readF_1 {k : Int} {l a t : List UInt8} (ha : Lib.itoa k ++ [32] = a) (ht : (cutF 35 l).1 = t) (h : (decide (t.length < a.length) || !(t.take a.length == a)) = true) : readF k l = (⟨[], []⟩, false) := by
  subst ha; subst ht; unfold readF; rw [if_pos h]
theorem readF_2 {k : Int} {l a t r : List UInt8} (ha : Lib.itoa k ++ [32] = a) (ht : (cutF 35 l).1 = t) (hr : t.drop a.length = r) (h : (decide (t.length < a.length) || !(t.take a.length == a)) = false) (h2 : (cutF 64 r).1.length = r.length) : readF k l = (⟨[], []⟩, false) := by
  subst ha; subst ht; subst hr; unfold readF; rw [if_neg (by rw [h]; simp), if_pos h2]
theorem readF_3 {k : Int} {l a t r q : List UInt8} {e : Rc} (ha : Lib.itoa k ++ [32] = a) (ht : (cutF 35 l).1 = t) (hr : t.drop a.length = r) (hq : (cutF 64 r).1 = q) (he : (⟨q, r.drop (q.length + 1)⟩ : Rc) = e) (h : (decide (t.length < a.length) || !(t.take a.length == a)) = false) (h2 : ¬ q.length = r.length) : readF k l = (e, okRc e && (lineF k e == l ++ [10])) := by
  subst ha; subst ht; subst hr; subst hq; subst he; unfold readF; rw [if_neg (by rw [h]; simp), if_neg h2]
theorem split_0 (c : UInt8) (l : List UInt8) : (splitF c [] l)[0]? = some (cutF c l).1 := by rw [splitF_head]; rfl
theorem e_nil : (⟨#[]⟩ : ByteArray) = bs [] := rfl
theorem c43 {K : List (Nat × Go.Obj)} [hK : Nonempty (KOk K)] (H : Heap) {k : Int} {l : List UInt8} (h0 : 0 ≤ k) (h1 : k ≤ 2 ^ 62) (hl : l.length ≤ 2 ^ 31) : ACalls (cx K) 43 [aS (bs l), aI k] H (.tu [aR (readF k l).1, aB (readF k l).2]) H := by
  obtain ⟨a, ha⟩ : ∃ a, Lib.itoa k ++ [32] = a := ⟨_, rfl⟩
  obtain ⟨t, ht⟩ : ∃ t, (cutF 35 l).1 = t := ⟨_, rfl⟩
  obtain ⟨r, hr⟩ : ∃ r, t.drop a.length = r := ⟨_, rfl⟩
  obtain ⟨q, hq⟩ : ∃ q, (cutF 64 r).1 = q := ⟨_, rfl⟩
  have hk := itoa_lenI h0 h1
  have hal : a.length ≤ 21 := by rw [← ha]; simp; omega
  have htl : t.length ≤ l.length := by rw [← ht]; exact (cutF_len 35 l).1
  have hrl : r.length ≤ l.length := by rw [← hr, List.length_drop]; omega
  have hql : q.length ≤ r.length := by rw [← hq]; exact (cutF_len 64 r).1
  have hel : (r.drop (q.length + 1)).length ≤ r.length := by rw [List.length_drop]; omega
  have hs0 : (splitF 35 [] l)[0]? = some t := by rw [← ht]; exact split_0 35 l
  have hs1 : (splitF 64 [] r)[0]? = some q := by rw [← hq]; exact split_0 64 r
  have hpos := splitF_pos 35 l []
  have hpos2 := splitF_pos 64 r []
  refine acalls0 Tryd.func43 rfl rfl (fun S hS hw => ?_)
  refine aw_seq ?_
  refine aw_region ?_
  refine rr_memL (r_allocL rfl rfl) rfl rfl rfl ?_
  refine rr_pure (rp rfl) rfl rfl rfl ?_
  refine rr_nil rfl ?_
  refine then_n ?_
  refine aw_seq ?_
  refine aw_region ?_
  refine rr_pure (rp rfl) rfl rfl rfl ?_
  refine rr_read (r_callF rfl rfl rfl (c59 _ h0 h1)) rfl rfl rfl  ?_
  refine rr_pure ((ha ▸ r_catB (a := Lib.itoa k) (b := [32]) rfl rfl rfl (by simp only [List.length_cons, List.length_nil]; omega))) rfl rfl rfl ?_
  refine rr_pure (rp rfl) rfl rfl rfl ?_
  refine rr_nil rfl ?_
  refine then_n ?_
  refine aw_seq ?_
  refine aw_region ?_
  refine rr_pure (rp rfl) rfl rfl rfl ?_
  refine rr_memL (r_callF rfl rfl rfl (c42 (c := 35) List.length_append (by omega))) rfl rfl rfl  ?_
  refine rr_pure (r_idx rfl rfl rfl rfl rfl (by omega) (by omega)) rfl rfl rfl ?_
  refine rr_read (r_load rfl rfl rfl (Rd.at (Rd.own (j := 1) (lo := 0) (ex := false) lT rfl rfl) (i := 0) hs0) rfl) rfl rfl rfl ?_
  refine rr_pure (rp rfl) rfl rfl rfl ?_
  refine rr_nil rfl ?_
  refine then_n ?_
  refine aw_seq ?_
  refine aw_seq ?_
  refine aw_region ?_
  refine rr_pure (rp rfl) rfl rfl rfl ?_
  refine rr_pure (r_lenB rfl rfl rfl) rfl rfl rfl ?_
  refine rr_pure (rp rfl) rfl rfl rfl ?_
  refine rr_pure (r_lenB rfl rfl rfl) rfl rfl rfl ?_
  refine rr_pure (rp rfl) rfl rfl rfl ?_
  refine rr_pure (rp rfl) rfl rfl rfl ?_
  refine rr_split rfl (fun g1 => ?_) (fun g1 => ?_)
  · have g1p := g1; try simp only [s_inj, bs_toList, nil_toList, bs_inj, u8_eq, UInt8.toNat_inj, decide_eq_true_eq, decide_eq_false_iff_not, Bool.not_eq_true', Bool.not_eq_false', bne_iff_ne, ne_eq, bne_eq_false_iff_eq, beq_iff_eq, beq_eq_false_iff_ne, Int.natCast_inj] at g1p
    refine rr_skip rfl rfl g1 ?_
    refine rr_skip rfl rfl g1 ?_
    refine rr_skip rfl rfl g1 ?_
    refine rr_skip rfl rfl g1 ?_
    refine rr_skip rfl rfl g1 ?_
    refine rr_skip rfl rfl g1 ?_
    refine rr_pure (r_pick_t rfl rfl g1 rfl) rfl rfl rfl ?_
    refine rr_nil rfl ?_
    refine then_n ?_
    refine aw_cond rfl (fun _ => ?_) (fun b2 => by first | cases b2 | (rw [b2] at b2; cases b2) | simp_all)
    refine aw_seq ?_
    refine aw_region ?_
    refine rr_pure (rp rfl) rfl rfl rfl ?_
    refine rr_eff (r_storeL rfl rfl rfl rfl rfl rfl rfl (Nat.le_of_ble_eq_true rfl)) rfl rfl rfl (by simp) ?_
    refine rr_pure (rp rfl) rfl rfl rfl ?_
    refine rr_nil rfl ?_
    refine then_n ?_
    refine aw_ret ?_
    refine then_r ?_
    exact fin_r (resA_cell rfl rfl rfl rfl (resA_tmp rfl resA_nil)) rfl (by rw [readF_1 ha ht (by rw [decide_eq_true (by omega)]; rfl)]; rfl) rfl
  · have g1p := g1; try simp only [s_inj, bs_toList, nil_toList, bs_inj, u8_eq, UInt8.toNat_inj, decide_eq_true_eq, decide_eq_false_iff_not, Bool.not_eq_true', Bool.not_eq_false', bne_iff_ne, ne_eq, bne_eq_false_iff_eq, beq_iff_eq, beq_eq_false_iff_ne, Int.natCast_inj] at g1p
    refine rr_pure (rp rfl) rfl rfl g1 ?_
    refine rr_pure (rp rfl) rfl rfl g1 ?_
    refine rr_pure (r_lenB rfl rfl rfl) rfl rfl g1 ?_
    refine rr_pure (r_subTo rfl rfl rfl rfl (by omega)) rfl rfl g1 ?_
    refine rr_pure (rp rfl) rfl rfl g1 ?_
    refine rr_pure (rp rfl) rfl rfl g1 ?_
    refine rr_pure (r_pick_f rfl rfl g1 rfl) rfl rfl rfl ?_
    refine rr_nil rfl ?_
    refine then_n ?_
    refine aw_cond rfl (fun b3 => ?_) (fun b3 => ?_)
    · have b3p := b3; try simp only [s_inj, bs_toList, nil_toList, bs_inj, u8_eq, UInt8.toNat_inj, decide_eq_true_eq, decide_eq_false_iff_not, Bool.not_eq_true', Bool.not_eq_false', bne_iff_ne, ne_eq, bne_eq_false_iff_eq, beq_iff_eq, beq_eq_false_iff_ne, Int.natCast_inj] at b3p
      refine aw_seq ?_
      refine aw_region ?_
      refine rr_pure (rp rfl) rfl rfl rfl ?_
      refine rr_eff (r_storeL rfl rfl rfl rfl rfl rfl rfl (Nat.le_of_ble_eq_true rfl)) rfl rfl rfl (by simp) ?_
      refine rr_pure (rp rfl) rfl rfl rfl ?_
      refine rr_nil rfl ?_
      refine then_n ?_
      refine aw_ret ?_
      refine then_r ?_
      exact fin_r (resA_cell rfl rfl rfl rfl (resA_tmp rfl resA_nil)) rfl (by rw [readF_1 ha ht (by rw [beq_false_of_ne b3p]; simp)]; rfl) rfl
    · have b3p := b3; try simp only [s_inj, bs_toList, nil_toList, bs_inj, u8_eq, UInt8.toNat_inj, decide_eq_true_eq, decide_eq_false_iff_not, Bool.not_eq_true', Bool.not_eq_false', bne_iff_ne, ne_eq, bne_eq_false_iff_eq, beq_iff_eq, beq_eq_false_iff_ne, Int.natCast_inj] at b3p
      have hcn : (decide (t.length < a.length) || !(t.take a.length == a)) = false := by rw [decide_eq_false (by omega), b3p]; simp
      refine aw_skip ?_
      refine then_n ?_
      refine aw_seq ?_
      refine aw_region ?_
      refine rr_pure (rp rfl) rfl rfl rfl ?_
      refine rr_pure (rp rfl) rfl rfl rfl ?_
      refine rr_pure (r_lenB rfl rfl rfl) rfl rfl rfl ?_
      refine rr_pure (r_subFromR hr rfl rfl rfl rfl (by omega)) rfl rfl rfl ?_
      refine rr_pure (rp rfl) rfl rfl rfl ?_
      refine rr_nil rfl ?_
      refine then_n ?_
      refine aw_seq ?_
      refine aw_region ?_
      refine rr_pure (rp rfl) rfl rfl rfl ?_
      refine rr_memL (r_callF rfl rfl rfl (c42 (c := 64) List.length_append (by omega))) rfl rfl rfl  ?_
      refine rr_pure (r_idx rfl rfl rfl rfl rfl (by omega) (by omega)) rfl rfl rfl ?_
      refine rr_read (r_load rfl rfl rfl (Rd.at (Rd.own (j := 2) (lo := 0) (ex := false) lT rfl rfl) (i := 0) hs1) rfl) rfl rfl rfl ?_
      refine rr_pure (rp rfl) rfl rfl rfl ?_
      refine rr_nil rfl ?_
      refine then_n ?_
      refine aw_seq ?_
      refine aw_seq ?_
      refine aw_region ?_
      refine rr_pure (rp rfl) rfl rfl rfl ?_
      refine rr_pure (r_lenB rfl rfl rfl) rfl rfl rfl ?_
      refine rr_pure (rp rfl) rfl rfl rfl ?_
      refine rr_pure (r_lenB rfl rfl rfl) rfl rfl rfl ?_
      refine rr_pure (rp rfl) rfl rfl rfl ?_
      refine rr_nil rfl ?_
      refine then_n ?_
      refine aw_cond rfl (fun b4 => ?_) (fun b4 => ?_)
      · have b4p := b4; try simp only [s_inj, bs_toList, nil_toList, bs_inj, u8_eq, UInt8.toNat_inj, decide_eq_true_eq, decide_eq_false_iff_not, Bool.not_eq_true', Bool.not_eq_false', bne_iff_ne, ne_eq, bne_eq_false_iff_eq, beq_iff_eq, beq_eq_false_iff_ne, Int.natCast_inj] at b4p
        refine aw_seq ?_
        refine aw_region ?_
        refine rr_pure (rp rfl) rfl rfl rfl ?_
        refine rr_eff (r_storeL rfl rfl rfl rfl rfl rfl rfl (Nat.le_of_ble_eq_true rfl)) rfl rfl rfl (by simp) ?_
        refine rr_pure (rp rfl) rfl rfl rfl ?_
        refine rr_nil rfl ?_
        refine then_n ?_
        refine aw_ret ?_
        refine then_r ?_
        exact fin_r (resA_cell rfl rfl rfl rfl (resA_tmp rfl resA_nil)) rfl (by rw [readF_2 ha ht hr hcn (by rw [hq]; omega)]; rfl) rfl
      · have b4p := b4; try simp only [s_inj, bs_toList, nil_toList, bs_inj, u8_eq, UInt8.toNat_inj, decide_eq_true_eq, decide_eq_false_iff_not, Bool.not_eq_true', Bool.not_eq_false', bne_iff_ne, ne_eq, bne_eq_false_iff_eq, beq_iff_eq, beq_eq_false_iff_ne, Int.natCast_inj] at b4p
        refine aw_skip ?_
        refine then_n ?_
        refine aw_seq ?_
        refine aw_region ?_
        refine rr_pure (rp rfl) rfl rfl rfl ?_
        refine rr_pure (rp rfl) rfl rfl rfl ?_
        refine rr_pure (rp rfl) rfl rfl rfl ?_
        refine rr_pure (r_lenB rfl rfl rfl) rfl rfl rfl ?_
        refine rr_pure (r_addn rfl rfl rfl ⟨by omega, by omega⟩) rfl rfl rfl ?_
        refine rr_pure (r_subFrom (h := q.length + 1) rfl rfl rfl rfl (by omega)) rfl rfl rfl ?_
        refine rr_pure (rp rfl) rfl rfl rfl ?_
        refine rr_memL (r_allocL rfl rfl) rfl rfl rfl ?_
        refine rr_eff (r_storeL rfl rfl rfl rfl rfl rfl rfl (Nat.le_of_ble_eq_true rfl)) rfl rfl rfl (by simp) ?_
        refine rr_nil rfl ?_
        refine then_n ?_
        refine aw_seq ?_
        refine aw_region_draw ?_
        first
          | refine rr_read (r_loadL rfl rfl rfl rfl rfl) rfl rfl rfl ?_
          | refine rr_read (r_loadA rfl rfl rfl (Rd.at (by assumption) (by assumption)) rfl) rfl rfl rfl ?_
        first
          | refine rr_read (r_loadL rfl rfl rfl rfl rfl) rfl rfl rfl ?_
          | refine rr_read (r_loadA rfl rfl rfl (Rd.at (by assumption) (by assumption)) rfl) rfl rfl rfl ?_
        refine rr_read (r_callF rfl rfl rfl (c60 _ (e := ⟨q, r.drop (q.length + 1)⟩) (by dsimp only; omega) (by dsimp only; omega))) rfl rfl rfl  ?_
        refine rr_pure (rp rfl) rfl rfl rfl ?_
        refine rr_split rfl (fun g5 => ?_) (fun g5 => ?_)
        · have g5p := g5; try simp only [s_inj, bs_toList, nil_toList, bs_inj, u8_eq, UInt8.toNat_inj, decide_eq_true_eq, decide_eq_false_iff_not, Bool.not_eq_true', Bool.not_eq_false', bne_iff_ne, ne_eq, bne_eq_false_iff_eq, beq_iff_eq, beq_eq_false_iff_ne, Int.natCast_inj] at g5p
          refine rr_pure (rp rfl) rfl rfl g5 ?_
          first
            | refine rr_read (r_loadL rfl rfl rfl rfl rfl) rfl rfl g5 ?_
            | refine rr_read (r_loadA rfl rfl rfl (Rd.at (by assumption) (by assumption)) rfl) rfl rfl g5 ?_
          refine rr_read (r_callF rfl rfl rfl (c61 _ (e := ⟨q, r.drop (q.length + 1)⟩) h0 h1 (by dsimp only; omega) (by dsimp only; omega))) rfl rfl g5  ?_
          refine rr_pure (rp rfl) rfl rfl g5 ?_
          refine rr_pure (r_catB (b := [10]) rfl rfl rfl (by simp only [List.length_cons, List.length_nil]; omega)) rfl rfl g5 ?_
          refine rr_pure (rp rfl) rfl rfl g5 ?_
          refine rr_pure (r_pick_t rfl rfl g5 rfl) rfl rfl rfl ?_
          refine rr_eff (r_storeL rfl rfl rfl rfl rfl rfl rfl (Nat.le_of_ble_eq_true rfl)) rfl rfl rfl (by simp) ?_
          refine rr_pure (rp rfl) rfl rfl rfl ?_
          refine rr_nil (by kernel_rfl) ?_
          refine then_n ?_
          refine aw_ret ?_
          exact fin_r (resA_cell rfl rfl rfl rfl (resA_tmp rfl resA_nil)) rfl (by rw [readF_3 ha ht hr hq rfl hcn (by omega), g5]; simp only [Bool.true_and, bs_toList]; rfl) rfl
        · have g5p := g5; try simp only [s_inj, bs_toList, nil_toList, bs_inj, u8_eq, UInt8.toNat_inj, decide_eq_true_eq, decide_eq_false_iff_not, Bool.not_eq_true', Bool.not_eq_false', bne_iff_ne, ne_eq, bne_eq_false_iff_eq, beq_iff_eq, beq_eq_false_iff_ne, Int.natCast_inj] at g5p
          refine rr_skip rfl rfl g5 ?_
          refine rr_skip rfl rfl g5 ?_
          refine rr_skip rfl rfl g5 ?_
          refine rr_skip rfl rfl g5 ?_
          refine rr_skip rfl rfl g5 ?_
          refine rr_skip rfl rfl g5 ?_
          refine rr_pure (r_pick_f rfl rfl g5 rfl) rfl rfl rfl ?_
          refine rr_eff (r_storeL rfl rfl rfl rfl rfl rfl rfl (Nat.le_of_ble_eq_true rfl)) rfl rfl rfl (by simp) ?_
          refine rr_pure (rp rfl) rfl rfl rfl ?_
          refine rr_nil (by kernel_rfl) ?_
          refine then_n ?_
          refine aw_ret ?_
          exact fin_r (resA_cell rfl rfl rfl rfl (resA_tmp rfl resA_nil)) rfl (by rw [readF_3 ha ht hr hq rfl hcn (by omega), g5]; rfl) rfl
end Go.Proofs.YtfdopoijhjbamaaDoor
