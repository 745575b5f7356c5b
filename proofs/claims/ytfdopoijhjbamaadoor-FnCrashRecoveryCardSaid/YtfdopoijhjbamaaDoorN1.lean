/- Logs after a crash. -/
import Derived.Test.YtfdopoijhjbamaaDoorMC
namespace Go.Proofs.YtfdopoijhjbamaaDoor
open Go.Aw Go.RowKit
set_option maxRecDepth 100000
set_option maxHeartbeats 1000000
set_option linter.unusedSimpArgs false
set_option linter.unusedVariables false
/-- The last byte is turned. -/
def hurtF (l : List UInt8) : List UInt8 := l.set (l.length - 1) (255 - l.getD (l.length - 1) 0)
def leftF (x : Lg) (k : Nat) (c : Bool) : List UInt8 := x.p ++ (if c && decide (0 < k) then hurtF (x.n.take k) else x.n.take k)
noncomputable def crashF (x : Lg) (n : Int) (c : Bool) : Option (List UInt8) := if validLog x && within n 0 x.n.length then some (leftF x n.toNat c) else none
theorem crash_a {x : Lg} {n : Int} {c : Bool} (h : validLog x = false) : crashF x n c = none := by unfold crashF; rw [h]; rfl
theorem crash_b {x : Lg} {n : Int} {c : Bool} (h : within n 0 x.n.length = false) : crashF x n c = none := by unfold crashF; rw [h]; simp
theorem crash_c {x : Lg} {k : Nat} {c : Bool} (h : validLog x = true) (h' : within (k : Int) 0 x.n.length = true) : crashF x k c = some (leftF x k c) := by unfold crashF; rw [h, h']; rfl
theorem sub8 (x : UInt8) : ((255 - x : UInt8).toNat : Int) = 255 - (x.toNat : Int) := by
  have h := x.toNat_lt
  have : (255 - x : UInt8).toNat = 255 - x.toNat := by
    rw [UInt8.toNat_sub_of_le]
    · rfl
    · rw [UInt8.le_iff_toNat_le]; show x.toNat ≤ 255; omega
  omega
theorem hurt_app (p q : List UInt8) (h : q ≠ []) : hurtF (p ++ q) = p ++ hurtF q := by
  have hl : 0 < q.length := List.length_pos_iff.2 h
  unfold hurtF
  rw [List.length_append, show p.length + q.length - 1 = p.length + (q.length - 1) by omega, List.set_append_right _ _ (by omega), Nat.add_sub_cancel_left, List.getD_eq_getElem?_getD, List.getElem?_append_right (by omega), Nat.add_sub_cancel_left, ← List.getD_eq_getElem?_getD]
theorem last_at {l : List UInt8} {k : Nat} {y : UInt8} (hl : l.length = k) (h : 0 < k) (hy : l[((k : Int) - 1).toNat]? = some y) : l.set ((k : Int) - 1).toNat (255 - y) = hurtF l := by
  subst hl
  have e : ((l.length : Int) - 1).toNat = l.length - 1 := by omega
  rw [e] at hy ⊢
  unfold hurtF
  rw [List.getD_eq_getElem?_getD, hy]; rfl
theorem fin_crash {x : Lg} {k : Nat} {c : Bool} {r : List UInt8} (h : validLog x = true) (h' : within (k : Int) 0 x.n.length = true) (hr : leftF x k c = r) : (AT.tu [aS (bs r), aB true]) = apR (crashF x k c) := by rw [crash_c h h', hr]; rfl
theorem left_t {x : Lg} {k : Nat} (h : 0 < k) : leftF x k true = x.p ++ hurtF (x.n.take k) := by unfold leftF; rw [decide_eq_true h]; rfl
theorem left_0 {x : Lg} {k : Nat} (h : ¬ 0 < k) : leftF x k true = x.p ++ x.n.take k := by unfold leftF; rw [decide_eq_false h]; rfl
theorem c7 {K : List (Nat × Go.Obj)} [hK : Nonempty (KOk K)] (H : Heap) {x : Lg} {n : Int} {c : Bool} (hp : x.p.length ≤ 2 ^ 30) (hq : x.n.length ≤ 2 ^ 30) : ACalls (cx K) 7 [aL x, aI n, aB c] H (apR (crashF x n c)) H := by
  refine acalls0 Tryd.func7 rfl rfl (fun S hS hw => ?_)
  refine aw_seq ?_
  refine aw_region ?_
  refine rr_memL (r_boxL rfl rfl) rfl rfl rfl ?_
  refine rr_pure (rp rfl) rfl rfl rfl ?_
  refine rr_pure (rp rfl) rfl rfl rfl ?_
  refine rr_nil rfl ?_
  refine then_n ?_
  refine aw_seq ?_
  refine aw_seq ?_
  refine aw_region ?_
  first
    | refine rr_read (r_loadL rfl rfl rfl rfl rfl) rfl rfl rfl ?_
    | refine rr_read (r_loadA rfl rfl rfl (Rd.at (by assumption) (by assumption)) rfl) rfl rfl rfl ?_
  refine rr_read (r_callF rfl rfl rfl (c21 _ (x := x) hp hq)) rfl rfl rfl  ?_
  refine rr_pure (rp rfl) rfl rfl rfl ?_
  refine rr_pure (rp rfl) rfl rfl rfl ?_
  refine rr_split rfl (fun g1 => ?_) (fun g1 => ?_)
  · have g1p := g1; try simp only [s_inj, bs_toList, nil_toList, bs_inj, u8_eq, UInt8.toNat_inj, decide_eq_true_eq, decide_eq_false_iff_not, Bool.not_eq_true', Bool.not_eq_false', bne_iff_ne, ne_eq, bne_eq_false_iff_eq, beq_iff_eq, beq_eq_false_iff_ne, Int.natCast_inj] at g1p
    refine rr_skip rfl rfl g1 ?_
    refine rr_skip rfl rfl g1 ?_
    refine rr_skip rfl rfl g1 ?_
    refine rr_skip rfl rfl g1 ?_
    refine rr_skip rfl rfl g1 ?_
    refine rr_skip rfl rfl g1 ?_
    refine rr_pure (r_pick_t rfl rfl g1 rfl) rfl rfl rfl ?_
    refine rr_nil rfl ?_
    refine then_n ?_
    refine aw_cond rfl (fun _ => ?_) (fun b2 => by first | cases b2 | (rw [b2] at b2; cases b2) | simp_all)
    refine aw_seq ?_
    refine aw_region ?_
    refine rr_pure (rp rfl) rfl rfl rfl ?_
    refine rr_pure (rp rfl) rfl rfl rfl ?_
    refine rr_nil rfl ?_
    refine then_n ?_
    refine aw_ret ?_
    refine then_r ?_
    exact fin_r (resA_tmp rfl (resA_tmp rfl resA_nil)) rfl (by rw [crash_a g1p]; rfl) rfl
  · have g1p := g1; try simp only [s_inj, bs_toList, nil_toList, bs_inj, u8_eq, UInt8.toNat_inj, decide_eq_true_eq, decide_eq_false_iff_not, Bool.not_eq_true', Bool.not_eq_false', bne_iff_ne, ne_eq, bne_eq_false_iff_eq, beq_iff_eq, beq_eq_false_iff_ne, Int.natCast_inj] at g1p
    refine rr_pure (rp rfl) rfl rfl g1 ?_
    refine rr_pure (rp rfl) rfl rfl g1 ?_
    first
      | refine rr_read (r_loadL rfl rfl rfl rfl rfl) rfl rfl g1 ?_
      | refine rr_read (r_loadA rfl rfl rfl (Rd.at (by assumption) (by assumption)) rfl) rfl rfl g1 ?_
    refine rr_pure (r_lenB rfl rfl rfl) rfl rfl g1 ?_
    refine rr_read (r_callF rfl rfl rfl (c22 _)) rfl rfl g1  ?_
    refine rr_pure (rp rfl) rfl rfl g1 ?_
    refine rr_pure (r_pick_f rfl rfl g1 rfl) rfl rfl rfl ?_
    refine rr_nil rfl ?_
    refine then_n ?_
    refine aw_cond rfl (fun b3 => ?_) (fun b3 => ?_)
    · have b3p := b3; try simp only [s_inj, bs_toList, nil_toList, bs_inj, u8_eq, UInt8.toNat_inj, decide_eq_true_eq, decide_eq_false_iff_not, Bool.not_eq_true', Bool.not_eq_false', bne_iff_ne, ne_eq, bne_eq_false_iff_eq, beq_iff_eq, beq_eq_false_iff_ne, Int.natCast_inj] at b3p
      refine aw_seq ?_
      refine aw_region ?_
      refine rr_pure (rp rfl) rfl rfl rfl ?_
      refine rr_pure (rp rfl) rfl rfl rfl ?_
      refine rr_nil rfl ?_
      refine then_n ?_
      refine aw_ret ?_
      refine then_r ?_
      exact fin_r (resA_tmp rfl (resA_tmp rfl resA_nil)) rfl (by rw [crash_b b3p]; rfl) rfl
    · have b3p := b3; try simp only [s_inj, bs_toList, nil_toList, bs_inj, u8_eq, UInt8.toNat_inj, decide_eq_true_eq, decide_eq_false_iff_not, Bool.not_eq_true', Bool.not_eq_false', bne_iff_ne, ne_eq, bne_eq_false_iff_eq, beq_iff_eq, beq_eq_false_iff_ne, Int.natCast_inj] at b3p
      obtain ⟨k, rfl⟩ : ∃ k : Nat, n = k := ⟨n.toNat, by simp only [within, Bool.and_eq_true, decide_eq_true_eq] at b3p; omega⟩
      have hk : k ≤ x.n.length := by simp only [within, Bool.and_eq_true, decide_eq_true_eq] at b3p; omega
      have htk : (x.n.take k).length = k := by rw [List.length_take]; omega
      refine aw_skip ?_
      refine then_n ?_
      refine aw_seq ?_
      refine aw_region ?_
      refine rr_pure (rp rfl) rfl rfl rfl ?_
      first
        | refine rr_read (r_loadL rfl rfl rfl rfl rfl) rfl rfl rfl ?_
        | refine rr_read (r_loadA rfl rfl rfl (Rd.at (by assumption) (by assumption)) rfl) rfl rfl rfl ?_
      refine rr_pure (rp rfl) rfl rfl rfl ?_
      refine rr_pure (r_subTo (h := k) rfl rfl rfl rfl hk) rfl rfl rfl ?_
      refine rr_memL (r_toBytes rfl rfl rfl rfl rfl (by omega)) rfl rfl rfl ?_
      refine rr_pure (rp rfl) rfl rfl rfl ?_
      refine rr_nil rfl ?_
      refine then_n ?_
      refine aw_seq ?_
      refine aw_seq ?_
      refine aw_region ?_
      refine rr_pure (rp rfl) rfl rfl rfl ?_
      refine rr_pure (rp rfl) rfl rfl rfl ?_
      refine rr_split rfl (fun g4 => ?_) (fun g4 => ?_)
      · have g4p := g4; try simp only [s_inj, bs_toList, nil_toList, bs_inj, u8_eq, UInt8.toNat_inj, decide_eq_true_eq, decide_eq_false_iff_not, Bool.not_eq_true', Bool.not_eq_false', bne_iff_ne, ne_eq, bne_eq_false_iff_eq, beq_iff_eq, beq_eq_false_iff_ne, Int.natCast_inj] at g4p
        refine rr_pure (rp rfl) rfl rfl g4 ?_
        refine rr_pure (rp rfl) rfl rfl g4 ?_
        refine rr_pure (r_pick_t rfl rfl g4 rfl) rfl rfl rfl ?_
        refine rr_nil rfl ?_
        refine then_n ?_
        refine aw_cond rfl (fun b5 => ?_) (fun b5 => ?_)
        · have b5p := b5; try simp only [s_inj, bs_toList, nil_toList, bs_inj, u8_eq, UInt8.toNat_inj, decide_eq_true_eq, decide_eq_false_iff_not, Bool.not_eq_true', Bool.not_eq_false', bne_iff_ne, ne_eq, bne_eq_false_iff_eq, beq_iff_eq, beq_eq_false_iff_ne, Int.natCast_inj] at b5p
          obtain ⟨y, hy⟩ := at_lt (x.n.take k) (i := ((k : Int) - 1).toNat) (by omega)
          have hyb := y.toNat_lt
          refine aw_region ?_
          refine rr_pure (rp rfl) rfl rfl rfl ?_
          refine rr_pure (rp rfl) rfl rfl rfl ?_
          refine rr_pure (r_subn rfl rfl rfl ⟨by omega, by omega⟩) rfl rfl rfl ?_
          refine rr_pure (rp rfl) rfl rfl rfl ?_
          refine rr_pure (rp rfl) rfl rfl rfl ?_
          refine rr_pure (r_subn rfl rfl rfl ⟨by omega, by omega⟩) rfl rfl rfl ?_
          refine rr_pure (r_idx rfl rfl rfl rfl rfl (by omega) (by omega)) rfl rfl rfl ?_
          refine rr_read (r_load rfl rfl rfl (Rd.at (Rd.own (j := 1) (lo := 0) (ex := false) lC rfl rfl) hy) rfl) rfl rfl rfl ?_
          refine rr_pure (r_sub8 rfl rfl rfl ⟨by omega, by omega⟩) rfl rfl rfl ?_
          refine rr_pure (r_idx rfl rfl rfl rfl rfl (by omega) (by omega)) rfl rfl rfl ?_
          refine rr_eff (r_storeR (enc := eC) (ys := x.n.take k) (e := 255 - y) (z := 0) rfl rfl rfl rfl rfl (by rw [eC, sub8]; rfl) lC rfl (by omega)) rfl rfl rfl (by simp) ?_
          refine rr_nil rfl ?_
          refine then_n ?_
          refine aw_seq ?_
          refine aw_region ?_
          refine rr_pure (rp rfl) rfl rfl rfl ?_
          first
            | refine rr_read (r_loadL rfl rfl rfl rfl rfl) rfl rfl rfl ?_
            | refine rr_read (r_loadA rfl rfl rfl (Rd.at (by assumption) (by assumption)) rfl) rfl rfl rfl ?_
          refine rr_pure (rp rfl) rfl rfl rfl ?_
          refine rr_read (r_ofBytes rfl rfl rfl rfl rfl (Rd.own (j := 1) lC rfl (by first | rfl | simp))) rfl rfl rfl ?_
          refine rr_pure (r_catB rfl rfl rfl (by (try simp only [List.length_set]); omega)) rfl rfl rfl ?_
          refine rr_pure (rp rfl) rfl rfl rfl ?_
          refine rr_pure (rp rfl) rfl rfl rfl ?_
          refine rr_nil rfl ?_
          refine then_n ?_
          refine aw_ret ?_
          exact fin_r (resA_tmp rfl (resA_tmp rfl resA_nil)) rfl (by rw [g4]; exact fin_crash g1p b3p (by rw [left_t (by omega), ← last_at htk (by omega) hy])) rfl
        · have b5p := b5; try simp only [s_inj, bs_toList, nil_toList, bs_inj, u8_eq, UInt8.toNat_inj, decide_eq_true_eq, decide_eq_false_iff_not, Bool.not_eq_true', Bool.not_eq_false', bne_iff_ne, ne_eq, bne_eq_false_iff_eq, beq_iff_eq, beq_eq_false_iff_ne, Int.natCast_inj] at b5p
          refine aw_skip ?_
          refine then_n ?_
          refine aw_seq ?_
          refine aw_region ?_
          refine rr_pure (rp rfl) rfl rfl rfl ?_
          first
            | refine rr_read (r_loadL rfl rfl rfl rfl rfl) rfl rfl rfl ?_
            | refine rr_read (r_loadA rfl rfl rfl (Rd.at (by assumption) (by assumption)) rfl) rfl rfl rfl ?_
          refine rr_pure (rp rfl) rfl rfl rfl ?_
          refine rr_read (r_ofBytes rfl rfl rfl rfl rfl (Rd.own (j := 1) lC rfl (by first | rfl | simp))) rfl rfl rfl ?_
          refine rr_pure (r_catB rfl rfl rfl (by (try simp only [List.length_set]); omega)) rfl rfl rfl ?_
          refine rr_pure (rp rfl) rfl rfl rfl ?_
          refine rr_pure (rp rfl) rfl rfl rfl ?_
          refine rr_nil rfl ?_
          refine then_n ?_
          refine aw_ret ?_
          exact fin_r (resA_tmp rfl (resA_tmp rfl resA_nil)) rfl (by rw [g4]; exact fin_crash g1p b3p (left_0 (by omega))) rfl
      · have g4p := g4; try simp only [s_inj, bs_toList, nil_toList, bs_inj, u8_eq, UInt8.toNat_inj, decide_eq_true_eq, decide_eq_false_iff_not, Bool.not_eq_true', Bool.not_eq_false', bne_iff_ne, ne_eq, bne_eq_false_iff_eq, beq_iff_eq, beq_eq_false_iff_ne, Int.natCast_inj] at g4p
        refine rr_skip rfl rfl g4 ?_
        refine rr_skip rfl rfl g4 ?_
        refine rr_pure (r_pick_f rfl rfl g4 rfl) rfl rfl rfl ?_
        refine rr_nil rfl ?_
        refine then_n ?_
        refine aw_cond rfl (fun b6 => by first | cases b6 | (rw [b6] at b6; cases b6) | simp_all) (fun _ => ?_)
        refine aw_skip ?_
        refine then_n ?_
        refine aw_seq ?_
        refine aw_region ?_
        refine rr_pure (rp rfl) rfl rfl rfl ?_
        first
          | refine rr_read (r_loadL rfl rfl rfl rfl rfl) rfl rfl rfl ?_
          | refine rr_read (r_loadA rfl rfl rfl (Rd.at (by assumption) (by assumption)) rfl) rfl rfl rfl ?_
        refine rr_pure (rp rfl) rfl rfl rfl ?_
        refine rr_read (r_ofBytes rfl rfl rfl rfl rfl (Rd.own (j := 1) lC rfl (by first | rfl | simp))) rfl rfl rfl ?_
        refine rr_pure (r_catB rfl rfl rfl (by (try simp only [List.length_set]); omega)) rfl rfl rfl ?_
        refine rr_pure (rp rfl) rfl rfl rfl ?_
        refine rr_pure (rp rfl) rfl rfl rfl ?_
        refine rr_nil rfl ?_
        refine then_n ?_
        refine aw_ret ?_
        exact fin_r (resA_tmp rfl (resA_tmp rfl resA_nil)) rfl (by rw [g4]; exact fin_crash g1p b3p rfl) rfl
theorem last_all {p q : List UInt8} {y : UInt8} (h : 0 < q.length) (hy : (p ++ q)[(((p ++ q).length : Int) - 1).toNat]? = some y) : (p ++ q).set (((p ++ q).length : Int) - 1).toNat (255 - y) = p ++ hurtF q := by
  rw [last_at rfl (by rw [List.length_append]; omega) hy, hurt_app _ _ (by intro e; rw [e] at h; cases h)]
theorem c9 {K : List (Nat × Go.Obj)} [hK : Nonempty (KOk K)] (H : Heap) {x : Lg} {n : Int} {c : Bool} (hp : x.p.length ≤ 2 ^ 30) (hq : x.n.length ≤ 2 ^ 30) : ACalls (cx K) 9 [aL x, aI n, aB c] H (apR (crashF x n c)) H := by
  refine acalls0 Tryd.func9 rfl rfl (fun S hS hw => ?_)
  refine aw_seq ?_
  refine aw_region ?_
  refine rr_memL (r_boxL rfl rfl) rfl rfl rfl ?_
  refine rr_pure (rp rfl) rfl rfl rfl ?_
  refine rr_pure (rp rfl) rfl rfl rfl ?_
  refine rr_nil rfl ?_
  refine then_n ?_
  refine aw_seq ?_
  refine aw_seq ?_
  refine aw_region ?_
  first
    | refine rr_read (r_loadL rfl rfl rfl rfl rfl) rfl rfl rfl ?_
    | refine rr_read (r_loadA rfl rfl rfl (Rd.at (by assumption) (by assumption)) rfl) rfl rfl rfl ?_
  refine rr_read (r_callF rfl rfl rfl (c15 _ (x := x) hp hq)) rfl rfl rfl  ?_
  refine rr_pure (rp rfl) rfl rfl rfl ?_
  refine rr_pure (rp rfl) rfl rfl rfl ?_
  refine rr_split rfl (fun g1 => ?_) (fun g1 => ?_)
  · have g1p := g1; try simp only [s_inj, bs_toList, nil_toList, bs_inj, u8_eq, UInt8.toNat_inj, decide_eq_true_eq, decide_eq_false_iff_not, Bool.not_eq_true', Bool.not_eq_false', bne_iff_ne, ne_eq, bne_eq_false_iff_eq, beq_iff_eq, beq_eq_false_iff_ne, Int.natCast_inj] at g1p
    refine rr_skip rfl rfl g1 ?_
    refine rr_skip rfl rfl g1 ?_
    refine rr_skip rfl rfl g1 ?_
    refine rr_skip rfl rfl g1 ?_
    refine rr_skip rfl rfl g1 ?_
    refine rr_skip rfl rfl g1 ?_
    refine rr_pure (r_pick_t rfl rfl g1 rfl) rfl rfl rfl ?_
    refine rr_nil rfl ?_
    refine then_n ?_
    refine aw_cond rfl (fun _ => ?_) (fun b2 => by first | cases b2 | (rw [b2] at b2; cases b2) | simp_all)
    refine aw_seq ?_
    refine aw_region ?_
    refine rr_pure (rp rfl) rfl rfl rfl ?_
    refine rr_pure (rp rfl) rfl rfl rfl ?_
    refine rr_nil rfl ?_
    refine then_n ?_
    refine aw_ret ?_
    refine then_r ?_
    exact fin_r (resA_tmp rfl (resA_tmp rfl resA_nil)) rfl (by rw [crash_a g1p]; rfl) rfl
  · have g1p := g1; try simp only [s_inj, bs_toList, nil_toList, bs_inj, u8_eq, UInt8.toNat_inj, decide_eq_true_eq, decide_eq_false_iff_not, Bool.not_eq_true', Bool.not_eq_false', bne_iff_ne, ne_eq, bne_eq_false_iff_eq, beq_iff_eq, beq_eq_false_iff_ne, Int.natCast_inj] at g1p
    refine rr_pure (rp rfl) rfl rfl g1 ?_
    refine rr_pure (rp rfl) rfl rfl g1 ?_
    first
      | refine rr_read (r_loadL rfl rfl rfl rfl rfl) rfl rfl g1 ?_
      | refine rr_read (r_loadA rfl rfl rfl (Rd.at (by assumption) (by assumption)) rfl) rfl rfl g1 ?_
    refine rr_pure (r_lenB rfl rfl rfl) rfl rfl g1 ?_
    refine rr_read (r_callF rfl rfl rfl (c23 _)) rfl rfl g1  ?_
    refine rr_pure (rp rfl) rfl rfl g1 ?_
    refine rr_pure (r_pick_f rfl rfl g1 rfl) rfl rfl rfl ?_
    refine rr_nil rfl ?_
    refine then_n ?_
    refine aw_cond rfl (fun b3 => ?_) (fun b3 => ?_)
    · have b3p := b3; try simp only [s_inj, bs_toList, nil_toList, bs_inj, u8_eq, UInt8.toNat_inj, decide_eq_true_eq, decide_eq_false_iff_not, Bool.not_eq_true', Bool.not_eq_false', bne_iff_ne, ne_eq, bne_eq_false_iff_eq, beq_iff_eq, beq_eq_false_iff_ne, Int.natCast_inj] at b3p
      refine aw_seq ?_
      refine aw_region ?_
      refine rr_pure (rp rfl) rfl rfl rfl ?_
      refine rr_pure (rp rfl) rfl rfl rfl ?_
      refine rr_nil rfl ?_
      refine then_n ?_
      refine aw_ret ?_
      refine then_r ?_
      exact fin_r (resA_tmp rfl (resA_tmp rfl resA_nil)) rfl (by rw [crash_b b3p]; rfl) rfl
    · have b3p := b3; try simp only [s_inj, bs_toList, nil_toList, bs_inj, u8_eq, UInt8.toNat_inj, decide_eq_true_eq, decide_eq_false_iff_not, Bool.not_eq_true', Bool.not_eq_false', bne_iff_ne, ne_eq, bne_eq_false_iff_eq, beq_iff_eq, beq_eq_false_iff_ne, Int.natCast_inj] at b3p
      obtain ⟨k, rfl⟩ : ∃ k : Nat, n = k := ⟨n.toNat, by simp only [within, Bool.and_eq_true, decide_eq_true_eq] at b3p; omega⟩
      have hk : k ≤ x.n.length := by simp only [within, Bool.and_eq_true, decide_eq_true_eq] at b3p; omega
      have htk : (x.n.take k).length = k := by rw [List.length_take]; omega
      have hal : (x.p ++ x.n.take k).length = x.p.length + k := by rw [List.length_append, htk]
      refine aw_skip ?_
      refine then_n ?_
      refine aw_seq ?_
      refine aw_region_draw ?_
      refine rr_pure (rp rfl) rfl rfl rfl ?_
      first
        | refine rr_read (r_loadL rfl rfl rfl rfl rfl) rfl rfl rfl ?_
        | refine rr_read (r_loadA rfl rfl rfl (Rd.at (by assumption) (by assumption)) rfl) rfl rfl rfl ?_
      refine rr_pure (rp rfl) rfl rfl rfl ?_
      first
        | refine rr_read (r_loadL rfl rfl rfl rfl rfl) rfl rfl rfl ?_
        | refine rr_read (r_loadA rfl rfl rfl (Rd.at (by assumption) (by assumption)) rfl) rfl rfl rfl ?_
      refine rr_pure (rp rfl) rfl rfl rfl ?_
      refine rr_pure (r_subTo (h := k) rfl rfl rfl rfl hk) rfl rfl rfl ?_
      refine rr_pure (r_catB rfl rfl rfl (by omega)) rfl rfl rfl ?_
      refine rr_memL (r_toBytes rfl rfl rfl rfl rfl (by omega)) rfl rfl rfl ?_
      refine rr_pure (rp rfl) rfl rfl rfl ?_
      refine rr_nil (by kernel_rfl) ?_
      refine then_n ?_
      refine aw_seq ?_
      refine aw_seq ?_
      refine aw_region ?_
      refine rr_pure (rp rfl) rfl rfl rfl ?_
      refine rr_pure (rp rfl) rfl rfl rfl ?_
      refine rr_split rfl (fun g4 => ?_) (fun g4 => ?_)
      · have g4p := g4; try simp only [s_inj, bs_toList, nil_toList, bs_inj, u8_eq, UInt8.toNat_inj, decide_eq_true_eq, decide_eq_false_iff_not, Bool.not_eq_true', Bool.not_eq_false', bne_iff_ne, ne_eq, bne_eq_false_iff_eq, beq_iff_eq, beq_eq_false_iff_ne, Int.natCast_inj] at g4p
        refine rr_pure (rp rfl) rfl rfl g4 ?_
        refine rr_pure (rp rfl) rfl rfl g4 ?_
        refine rr_pure (r_pick_t rfl rfl g4 rfl) rfl rfl rfl ?_
        refine rr_nil rfl ?_
        refine then_n ?_
        refine aw_cond rfl (fun b5 => ?_) (fun b5 => ?_)
        · have b5p := b5; try simp only [s_inj, bs_toList, nil_toList, bs_inj, u8_eq, UInt8.toNat_inj, decide_eq_true_eq, decide_eq_false_iff_not, Bool.not_eq_true', Bool.not_eq_false', bne_iff_ne, ne_eq, bne_eq_false_iff_eq, beq_iff_eq, beq_eq_false_iff_ne, Int.natCast_inj] at b5p
          obtain ⟨y, hy⟩ := at_lt (x.p ++ x.n.take k) (i := (((x.p ++ x.n.take k).length : Int) - 1).toNat) (by omega)
          have hyb := y.toNat_lt
          refine aw_region ?_
          refine rr_pure (rp rfl) rfl rfl rfl ?_
          refine rr_pure (rp rfl) rfl rfl rfl ?_
          first
            | refine rr_pure (rp rfl) rfl rfl rfl ?_
            | refine rr_pure (r_lenR rfl rfl rfl ⟨_, _, by assumption⟩) rfl rfl rfl ?_
          refine rr_pure (r_subn rfl rfl rfl ⟨by omega, by omega⟩) rfl rfl rfl ?_
          refine rr_pure (rp rfl) rfl rfl rfl ?_
          refine rr_pure (rp rfl) rfl rfl rfl ?_
          first
            | refine rr_pure (rp rfl) rfl rfl rfl ?_
            | refine rr_pure (r_lenR rfl rfl rfl ⟨_, _, by assumption⟩) rfl rfl rfl ?_
          refine rr_pure (r_subn rfl rfl rfl ⟨by omega, by omega⟩) rfl rfl rfl ?_
          refine rr_pure (r_idx rfl rfl rfl rfl rfl (by omega) (by omega)) rfl rfl rfl ?_
          refine rr_read (r_load rfl rfl rfl (Rd.at (Rd.own (j := 1) (lo := 0) (ex := false) lC rfl rfl) hy) rfl) rfl rfl rfl ?_
          refine rr_pure (r_sub8 rfl rfl rfl ⟨by omega, by omega⟩) rfl rfl rfl ?_
          refine rr_pure (r_idx rfl rfl rfl rfl rfl (by omega) (by omega)) rfl rfl rfl ?_
          refine rr_eff (r_storeR (enc := eC) (ys := x.p ++ x.n.take k) (e := 255 - y) (z := 0) rfl rfl rfl rfl rfl (by rw [eC, sub8]; rfl) lC rfl (by omega)) rfl rfl rfl (by simp) ?_
          refine rr_nil rfl ?_
          refine then_n ?_
          refine aw_seq ?_
          refine aw_region ?_
          refine rr_pure (rp rfl) rfl rfl rfl ?_
          refine rr_read (r_ofBytes rfl rfl rfl rfl rfl (Rd.own (j := 1) lC rfl (by first | rfl | simp))) rfl rfl rfl ?_
          refine rr_pure (rp rfl) rfl rfl rfl ?_
          refine rr_pure (rp rfl) rfl rfl rfl ?_
          refine rr_nil rfl ?_
          refine then_n ?_
          refine aw_ret ?_
          exact fin_r (resA_tmp rfl (resA_tmp rfl resA_nil)) rfl (by rw [g4]; exact fin_crash g1p b3p (by rw [left_t (by omega), ← last_all (by omega) hy])) rfl
        · have b5p := b5; try simp only [s_inj, bs_toList, nil_toList, bs_inj, u8_eq, UInt8.toNat_inj, decide_eq_true_eq, decide_eq_false_iff_not, Bool.not_eq_true', Bool.not_eq_false', bne_iff_ne, ne_eq, bne_eq_false_iff_eq, beq_iff_eq, beq_eq_false_iff_ne, Int.natCast_inj] at b5p
          refine aw_skip ?_
          refine then_n ?_
          refine aw_seq ?_
          refine aw_region ?_
          refine rr_pure (rp rfl) rfl rfl rfl ?_
          refine rr_read (r_ofBytes rfl rfl rfl rfl rfl (Rd.own (j := 1) lC rfl (by first | rfl | simp))) rfl rfl rfl ?_
          refine rr_pure (rp rfl) rfl rfl rfl ?_
          refine rr_pure (rp rfl) rfl rfl rfl ?_
          refine rr_nil rfl ?_
          refine then_n ?_
          refine aw_ret ?_
          exact fin_r (resA_tmp rfl (resA_tmp rfl resA_nil)) rfl (by rw [g4]; exact fin_crash g1p b3p (left_0 (by omega))) rfl
      · have g4p := g4; try simp only [s_inj, bs_toList, nil_toList, bs_inj, u8_eq, UInt8.toNat_inj, decide_eq_true_eq, decide_eq_false_iff_not, Bool.not_eq_true', Bool.not_eq_false', bne_iff_ne, ne_eq, bne_eq_false_iff_eq, beq_iff_eq, beq_eq_false_iff_ne, Int.natCast_inj] at g4p
        refine rr_skip rfl rfl g4 ?_
        refine rr_skip rfl rfl g4 ?_
        refine rr_pure (r_pick_f rfl rfl g4 rfl) rfl rfl rfl ?_
        refine rr_nil rfl ?_
        refine then_n ?_
        refine aw_cond rfl (fun b6 => by first | cases b6 | (rw [b6] at b6; cases b6) | simp_all) (fun _ => ?_)
        refine aw_skip ?_
        refine then_n ?_
        refine aw_seq ?_
        refine aw_region ?_
        refine rr_pure (rp rfl) rfl rfl rfl ?_
        refine rr_read (r_ofBytes rfl rfl rfl rfl rfl (Rd.own (j := 1) lC rfl (by first | rfl | simp))) rfl rfl rfl ?_
        refine rr_pure (rp rfl) rfl rfl rfl ?_
        refine rr_pure (rp rfl) rfl rfl rfl ?_
        refine rr_nil rfl ?_
        refine then_n ?_
        refine aw_ret ?_
        exact fin_r (resA_tmp rfl (resA_tmp rfl resA_nil)) rfl (by rw [g4]; exact fin_crash g1p b3p rfl) rfl
theorem c3 {K : List (Nat × Go.Obj)} [hK : Nonempty (KOk K)] (H : Heap) {x : Lg} {n : Int} {c : Bool} (hp : x.p.length ≤ 2 ^ 50) (hq : x.n.length ≤ 2 ^ 50) : ACalls (cx K) 3 [aL x, aI n, aB c] H (Vb true) H := by
  refine acalls0 Tryd.func3 rfl rfl (fun S hS hw => ?_)
  refine aw_seq ?_
  refine aw_region ?_
  refine rr_memL (r_boxL rfl rfl) rfl rfl rfl ?_
  refine rr_pure (rp rfl) rfl rfl rfl ?_
  refine rr_nil rfl ?_
  refine then_n ?_
  refine aw_seq ?_
  refine aw_region ?_
  refine rr_pure (rp rfl) rfl rfl rfl ?_
  refine rr_nil rfl ?_
  refine then_n ?_
  refine aw_seq ?_
  refine aw_region ?_
  first
    | refine rr_read (r_loadL rfl rfl rfl rfl rfl) rfl rfl rfl ?_
    | refine rr_read (r_loadA rfl rfl rfl (Rd.at (by assumption) (by assumption)) rfl) rfl rfl rfl ?_
  refine rr_pure (rp rfl) rfl rfl rfl ?_
  refine rr_read (r_callF rfl rfl rfl (c6 _ (x := x) hp hq (by omega))) rfl rfl rfl  ?_
  refine rr_pure (rp rfl) rfl rfl rfl ?_
  refine rr_nil rfl ?_
  refine then_n ?_
  refine aw_seq ?_
  refine aw_seq ?_
  refine aw_region ?_
  refine rr_pure (rp rfl) rfl rfl rfl ?_
  refine rr_pure (rp rfl) rfl rfl rfl ?_
  refine rr_nil rfl ?_
  refine then_n ?_
  refine aw_cond rfl (fun b1 => ?_) (fun b1 => ?_)
  · have b1p := b1; try simp only [s_inj, bs_toList, nil_toList, bs_inj, u8_eq, UInt8.toNat_inj, decide_eq_true_eq, decide_eq_false_iff_not, Bool.not_eq_true', Bool.not_eq_false', bne_iff_ne, ne_eq, bne_eq_false_iff_eq, beq_iff_eq, beq_eq_false_iff_ne, Int.natCast_inj] at b1p
    refine aw_seq ?_
    refine aw_region ?_
    refine rr_pure (rp rfl) rfl rfl rfl ?_
    refine rr_nil rfl ?_
    refine then_n ?_
    refine aw_ret ?_
    refine then_r ?_
    first | exact fin_r rfl rfl rfl rfl | (exfalso; simp_all; done)
  · have b1p := b1; try simp only [s_inj, bs_toList, nil_toList, bs_inj, u8_eq, UInt8.toNat_inj, decide_eq_true_eq, decide_eq_false_iff_not, Bool.not_eq_true', Bool.not_eq_false', bne_iff_ne, ne_eq, bne_eq_false_iff_eq, beq_iff_eq, beq_eq_false_iff_ne, Int.natCast_inj] at b1p
    have hz := szLg_ok (x := x) b1p
    refine aw_skip ?_
    refine then_n ?_
    refine aw_seq ?_
    refine aw_region ?_
    first
      | refine rr_read (r_loadL rfl rfl rfl rfl rfl) rfl rfl rfl ?_
      | refine rr_read (r_loadA rfl rfl rfl (Rd.at (by assumption) (by assumption)) rfl) rfl rfl rfl ?_
    refine rr_read (r_callF rfl rfl rfl (c8 _ (x := x))) rfl rfl rfl  ?_
    refine rr_pure (rp rfl) rfl rfl rfl ?_
    refine rr_pure (rp rfl) rfl rfl rfl ?_
    refine rr_read (r_callF rfl rfl rfl (c7 _ (x := x) (by omega) (by omega))) rfl rfl rfl  ?_
    refine rr_pure (rp rfl) rfl rfl rfl ?_
    refine rr_pure (rp rfl) rfl rfl rfl ?_
    refine rr_pure (rp rfl) rfl rfl rfl ?_
    refine rr_pure (rp rfl) rfl rfl rfl ?_
    refine rr_pure (rp rfl) rfl rfl rfl ?_
    refine rr_nil rfl ?_
    refine then_n ?_
    refine aw_seq ?_
    refine aw_region ?_
    first
      | refine rr_read (r_loadL rfl rfl rfl rfl rfl) rfl rfl rfl ?_
      | refine rr_read (r_loadA rfl rfl rfl (Rd.at (by assumption) (by assumption)) rfl) rfl rfl rfl ?_
    refine rr_read (r_callF rfl rfl rfl (c8 _ (x := x))) rfl rfl rfl  ?_
    refine rr_pure (rp rfl) rfl rfl rfl ?_
    refine rr_pure (rp rfl) rfl rfl rfl ?_
    refine rr_read (r_callF rfl rfl rfl (c9 _ (x := x) (by omega) (by omega))) rfl rfl rfl  ?_
    refine rr_pure (rp rfl) rfl rfl rfl ?_
    refine rr_pure (rp rfl) rfl rfl rfl ?_
    refine rr_pure (rp rfl) rfl rfl rfl ?_
    refine rr_pure (rp rfl) rfl rfl rfl ?_
    refine rr_pure (rp rfl) rfl rfl rfl ?_
    refine rr_nil rfl ?_
    refine then_n ?_
    refine aw_seq ?_
    refine aw_seq ?_
    refine aw_region ?_
    refine rr_pure (rp rfl) rfl rfl rfl ?_
    refine rr_pure (rp rfl) rfl rfl rfl ?_
    refine rr_pure (rp rfl) rfl rfl rfl ?_
    refine rr_pure (rp rfl) rfl rfl rfl ?_
    refine rr_split rfl (fun g2 => ?_) (fun g2 => ?_)
    · have g2p := g2; try simp only [s_inj, bs_toList, nil_toList, bs_inj, u8_eq, UInt8.toNat_inj, decide_eq_true_eq, decide_eq_false_iff_not, Bool.not_eq_true', Bool.not_eq_false', bne_iff_ne, ne_eq, bne_eq_false_iff_eq, beq_iff_eq, beq_eq_false_iff_ne, Int.natCast_inj] at g2p
      refine rr_skip rfl rfl g2 ?_
      refine rr_skip rfl rfl g2 ?_
      refine rr_skip rfl rfl g2 ?_
      refine rr_pure (r_pick_t rfl rfl g2 rfl) rfl rfl rfl ?_
      refine rr_nil rfl ?_
      refine then_n ?_
      refine aw_cond rfl (fun _ => ?_) (fun b3 => by first | cases b3 | (rw [b3] at b3; cases b3) | simp_all)
      refine aw_seq ?_
      refine aw_region ?_
      refine rr_pure (rp rfl) rfl rfl rfl ?_
      refine rr_nil rfl ?_
      refine then_n ?_
      refine aw_ret ?_
      refine then_r ?_
      first | exact fin_r rfl rfl rfl rfl | (exfalso; simp_all; done)
    · have g2p := g2; try simp only [s_inj, bs_toList, nil_toList, bs_inj, u8_eq, UInt8.toNat_inj, decide_eq_true_eq, decide_eq_false_iff_not, Bool.not_eq_true', Bool.not_eq_false', bne_iff_ne, ne_eq, bne_eq_false_iff_eq, beq_iff_eq, beq_eq_false_iff_ne, Int.natCast_inj] at g2p
      refine rr_pure (rp rfl) rfl rfl g2 ?_
      refine rr_pure (rp rfl) rfl rfl g2 ?_
      refine rr_pure (r_bbin (.inr rfl) rfl rfl rfl rfl) rfl rfl g2 ?_
      refine rr_pure (r_pick_f rfl rfl g2 rfl) rfl rfl rfl ?_
      refine rr_nil rfl ?_
      refine then_n ?_
      refine aw_cond rfl (fun b4 => ?_) (fun b4 => ?_)
      · have b4p := b4; try simp only [s_inj, bs_toList, nil_toList, bs_inj, u8_eq, UInt8.toNat_inj, decide_eq_true_eq, decide_eq_false_iff_not, Bool.not_eq_true', Bool.not_eq_false', bne_iff_ne, ne_eq, bne_eq_false_iff_eq, beq_iff_eq, beq_eq_false_iff_ne, Int.natCast_inj] at b4p
        refine aw_seq ?_
        refine aw_region ?_
        refine rr_pure (rp rfl) rfl rfl rfl ?_
        refine rr_nil rfl ?_
        refine then_n ?_
        refine aw_ret ?_
        refine then_r ?_
        first | exact fin_r rfl rfl rfl rfl | (exfalso; simp_all; done)
      · have b4p := b4; try simp only [s_inj, bs_toList, nil_toList, bs_inj, u8_eq, UInt8.toNat_inj, decide_eq_true_eq, decide_eq_false_iff_not, Bool.not_eq_true', Bool.not_eq_false', bne_iff_ne, ne_eq, bne_eq_false_iff_eq, beq_iff_eq, beq_eq_false_iff_ne, Int.natCast_inj] at b4p
        refine aw_skip ?_
        refine then_n ?_
        refine aw_seq ?_
        refine aw_region ?_
        refine rr_pure (rp rfl) rfl rfl rfl ?_
        refine rr_nil rfl ?_
        refine then_n ?_
        refine aw_ret ?_
        first | exact fin_r rfl rfl rfl rfl | (exfalso; simp_all; done)
end Go.Proofs.YtfdopoijhjbamaaDoor
