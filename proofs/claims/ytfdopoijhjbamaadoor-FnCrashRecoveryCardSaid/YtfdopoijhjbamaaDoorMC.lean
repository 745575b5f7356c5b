/- Consoles that hold. -/
import Derived.Test.YtfdopoijhjbamaaDoorMB
namespace Go.Proofs.YtfdopoijhjbamaaDoor
open Go.Aw Go.RowKit
set_option maxRecDepth 100000
set_option maxHeartbeats 4000000
set_option linter.unusedSimpArgs false
set_option linter.unusedVariables false
theorem lg_eq {x y : Lg} : x = y ↔ x.p = y.p ∧ x.n = y.n ∧ x.d = y.d := by
  cases x; cases y; simp
instance : DecidableEq Lg := fun a b => decidable_of_iff (a.p = b.p ∧ a.n = b.n ∧ a.d = b.d) lg_eq.symm
abbrev aC (v : AC) (x : Lg) : AV := .ag (v :: eL x)
theorem c34 {K : List (Nat × Go.Obj)} [hK : Nonempty (KOk K)] (H : Heap) {x y : Lg} : ACalls (cx K) 34 [aL x, aL y] H (Vb (decide (x = y))) H := by
  refine acalls0 Tryd.func34 rfl rfl (fun S hS hw => ?_)
  refine aw_seq ?_
  refine aw_region ?_
  refine rr_memL (r_boxL rfl rfl) rfl rfl rfl ?_
  refine rr_memL (r_boxL rfl rfl) rfl rfl rfl ?_
  refine rr_pure (rp rfl) rfl rfl rfl ?_
  refine rr_nil rfl ?_
  refine then_n ?_
  refine aw_seq ?_
  refine aw_seq ?_
  refine aw_region ?_
  refine rr_pure (rp rfl) rfl rfl rfl ?_
  first
    | refine rr_read (r_loadL rfl rfl rfl rfl rfl) rfl rfl rfl ?_
    | refine rr_read (r_loadA rfl rfl rfl (Rd.at (by assumption) (by assumption)) rfl) rfl rfl rfl ?_
  refine rr_pure (rp rfl) rfl rfl rfl ?_
  first
    | refine rr_read (r_loadL rfl rfl rfl rfl rfl) rfl rfl rfl ?_
    | refine rr_read (r_loadA rfl rfl rfl (Rd.at (by assumption) (by assumption)) rfl) rfl rfl rfl ?_
  refine rr_pure (rp rfl) rfl rfl rfl ?_
  refine rr_nil rfl ?_
  refine then_n ?_
  refine aw_cond rfl (fun b1 => ?_) (fun b1 => ?_)
  · have b1p := b1; try simp only [s_inj, bs_toList, nil_toList, bs_inj, u8_eq, UInt8.toNat_inj, decide_eq_true_eq, decide_eq_false_iff_not, Bool.not_eq_true', Bool.not_eq_false', bne_iff_ne, ne_eq, bne_eq_false_iff_eq, beq_iff_eq, beq_eq_false_iff_ne, Int.natCast_inj] at b1p
    refine aw_seq ?_
    refine aw_region ?_
    refine rr_pure (rp rfl) rfl rfl rfl ?_
    refine rr_nil rfl ?_
    refine then_n ?_
    refine aw_ret ?_
    refine then_r ?_
    exact fin_b rfl (by have e := @lg_eq x y; simp_all)
  · have b1p := b1; try simp only [s_inj, bs_toList, nil_toList, bs_inj, u8_eq, UInt8.toNat_inj, decide_eq_true_eq, decide_eq_false_iff_not, Bool.not_eq_true', Bool.not_eq_false', bne_iff_ne, ne_eq, bne_eq_false_iff_eq, beq_iff_eq, beq_eq_false_iff_ne, Int.natCast_inj] at b1p
    refine aw_skip ?_
    refine then_n ?_
    refine aw_seq ?_
    refine aw_seq ?_
    refine aw_region ?_
    refine rr_pure (rp rfl) rfl rfl rfl ?_
    first
      | refine rr_read (r_loadL rfl rfl rfl rfl rfl) rfl rfl rfl ?_
      | refine rr_read (r_loadA rfl rfl rfl (Rd.at (by assumption) (by assumption)) rfl) rfl rfl rfl ?_
    refine rr_pure (rp rfl) rfl rfl rfl ?_
    first
      | refine rr_read (r_loadL rfl rfl rfl rfl rfl) rfl rfl rfl ?_
      | refine rr_read (r_loadA rfl rfl rfl (Rd.at (by assumption) (by assumption)) rfl) rfl rfl rfl ?_
    refine rr_pure (rp rfl) rfl rfl rfl ?_
    refine rr_nil rfl ?_
    refine then_n ?_
    refine aw_cond rfl (fun b2 => ?_) (fun b2 => ?_)
    · have b2p := b2; try simp only [s_inj, bs_toList, nil_toList, bs_inj, u8_eq, UInt8.toNat_inj, decide_eq_true_eq, decide_eq_false_iff_not, Bool.not_eq_true', Bool.not_eq_false', bne_iff_ne, ne_eq, bne_eq_false_iff_eq, beq_iff_eq, beq_eq_false_iff_ne, Int.natCast_inj] at b2p
      refine aw_seq ?_
      refine aw_region ?_
      refine rr_pure (rp rfl) rfl rfl rfl ?_
      refine rr_nil rfl ?_
      refine then_n ?_
      refine aw_ret ?_
      refine then_r ?_
      exact fin_b rfl (by have e := @lg_eq x y; simp_all)
    · have b2p := b2; try simp only [s_inj, bs_toList, nil_toList, bs_inj, u8_eq, UInt8.toNat_inj, decide_eq_true_eq, decide_eq_false_iff_not, Bool.not_eq_true', Bool.not_eq_false', bne_iff_ne, ne_eq, bne_eq_false_iff_eq, beq_iff_eq, beq_eq_false_iff_ne, Int.natCast_inj] at b2p
      refine aw_skip ?_
      refine then_n ?_
      refine aw_seq ?_
      refine aw_seq ?_
      refine aw_region ?_
      refine rr_pure (rp rfl) rfl rfl rfl ?_
      first
        | refine rr_read (r_loadL rfl rfl rfl rfl rfl) rfl rfl rfl ?_
        | refine rr_read (r_loadA rfl rfl rfl (Rd.at (by assumption) (by assumption)) rfl) rfl rfl rfl ?_
      refine rr_pure (rp rfl) rfl rfl rfl ?_
      first
        | refine rr_read (r_loadL rfl rfl rfl rfl rfl) rfl rfl rfl ?_
        | refine rr_read (r_loadA rfl rfl rfl (Rd.at (by assumption) (by assumption)) rfl) rfl rfl rfl ?_
      refine rr_pure (rp rfl) rfl rfl rfl ?_
      refine rr_nil rfl ?_
      refine then_n ?_
      refine aw_cond rfl (fun b3 => ?_) (fun b3 => ?_)
      · have b3p := b3; try simp only [s_inj, bs_toList, nil_toList, bs_inj, u8_eq, UInt8.toNat_inj, decide_eq_true_eq, decide_eq_false_iff_not, Bool.not_eq_true', Bool.not_eq_false', bne_iff_ne, ne_eq, bne_eq_false_iff_eq, beq_iff_eq, beq_eq_false_iff_ne, Int.natCast_inj] at b3p
        refine aw_seq ?_
        refine aw_region ?_
        refine rr_pure (rp rfl) rfl rfl rfl ?_
        refine rr_nil rfl ?_
        refine then_n ?_
        refine aw_ret ?_
        refine then_r ?_
        exact fin_b rfl (by have e := @lg_eq x y; simp_all)
      · have b3p := b3; try simp only [s_inj, bs_toList, nil_toList, bs_inj, u8_eq, UInt8.toNat_inj, decide_eq_true_eq, decide_eq_false_iff_not, Bool.not_eq_true', Bool.not_eq_false', bne_iff_ne, ne_eq, bne_eq_false_iff_eq, beq_iff_eq, beq_eq_false_iff_ne, Int.natCast_inj] at b3p
        refine aw_skip ?_
        refine then_n ?_
        refine aw_seq ?_
        refine aw_region ?_
        refine rr_pure (rp rfl) rfl rfl rfl ?_
        refine rr_nil rfl ?_
        refine then_n ?_
        refine aw_ret ?_
        exact fin_b rfl (by have e := @lg_eq x y; simp_all)
theorem c20 {K : List (Nat × Go.Obj)} [hK : Nonempty (KOk K)] (H : Heap) {v v' : AC} {ws ws' : List Wn} {x y : Lg} (hr : Rd (cx K) H 6 eW v ws) (hr' : Rd (cx K) H 6 eW v' ws') (hn : ws.length ≤ 2 ^ 40) (hn' : ws'.length ≤ 2 ^ 40) : ACalls (cx K) 20 [aC v x, aC v' y] H (Vb (decide (ws = ws' ∧ x = y))) H := by
  refine acalls0 Tryd.func20 rfl rfl (fun S hS hw => ?_)
  refine aw_seq ?_
  refine aw_region ?_
  refine rr_memL (r_boxL rfl rfl) rfl rfl rfl ?_
  refine rr_memL (r_boxL rfl rfl) rfl rfl rfl ?_
  refine rr_pure (rp rfl) rfl rfl rfl ?_
  refine rr_nil rfl ?_
  refine then_n ?_
  refine aw_seq ?_
  refine aw_seq ?_
  refine aw_region ?_
  refine rr_pure (rp rfl) rfl rfl rfl ?_
  first
    | refine rr_read (r_loadL rfl rfl rfl rfl rfl) rfl rfl rfl ?_
    | refine rr_read (r_loadA rfl rfl rfl (Rd.at (by assumption) (by assumption)) rfl) rfl rfl rfl ?_
  refine rr_pure (rp rfl) rfl rfl rfl ?_
  first
    | refine rr_read (r_loadL rfl rfl rfl rfl rfl) rfl rfl rfl ?_
    | refine rr_read (r_loadA rfl rfl rfl (Rd.at (by assumption) (by assumption)) rfl) rfl rfl rfl ?_
  refine rr_read (r_callF rfl rfl rfl (c33 _ hr.app hr'.app (by omega) (by omega))) rfl rfl rfl  ?_
  refine rr_pure (rp rfl) rfl rfl rfl ?_
  refine rr_nil rfl ?_
  refine then_n ?_
  refine aw_cond rfl (fun b1 => ?_) (fun b1 => ?_)
  · have b1p := b1; try simp only [s_inj, bs_toList, nil_toList, bs_inj, u8_eq, UInt8.toNat_inj, decide_eq_true_eq, decide_eq_false_iff_not, Bool.not_eq_true', Bool.not_eq_false', bne_iff_ne, ne_eq, bne_eq_false_iff_eq, beq_iff_eq, beq_eq_false_iff_ne, Int.natCast_inj] at b1p
    refine aw_seq ?_
    refine aw_region ?_
    refine rr_pure (rp rfl) rfl rfl rfl ?_
    refine rr_nil rfl ?_
    refine then_n ?_
    refine aw_ret ?_
    refine then_r ?_
    exact fin_b rfl (by simp_all)
  · have b1p := b1; try simp only [s_inj, bs_toList, nil_toList, bs_inj, u8_eq, UInt8.toNat_inj, decide_eq_true_eq, decide_eq_false_iff_not, Bool.not_eq_true', Bool.not_eq_false', bne_iff_ne, ne_eq, bne_eq_false_iff_eq, beq_iff_eq, beq_eq_false_iff_ne, Int.natCast_inj] at b1p
    refine aw_skip ?_
    refine then_n ?_
    refine aw_seq ?_
    refine aw_seq ?_
    refine aw_region ?_
    refine rr_pure (rp rfl) rfl rfl rfl ?_
    first
      | refine rr_read (r_loadL rfl rfl rfl rfl rfl) rfl rfl rfl ?_
      | refine rr_read (r_loadA rfl rfl rfl (Rd.at (by assumption) (by assumption)) rfl) rfl rfl rfl ?_
    refine rr_pure (rp rfl) rfl rfl rfl ?_
    first
      | refine rr_read (r_loadL rfl rfl rfl rfl rfl) rfl rfl rfl ?_
      | refine rr_read (r_loadA rfl rfl rfl (Rd.at (by assumption) (by assumption)) rfl) rfl rfl rfl ?_
    refine rr_read (r_callF rfl rfl rfl (c34 _ (x := x) (y := y))) rfl rfl rfl  ?_
    refine rr_pure (rp rfl) rfl rfl rfl ?_
    refine rr_nil rfl ?_
    refine then_n ?_
    refine aw_cond rfl (fun b2 => ?_) (fun b2 => ?_)
    · have b2p := b2; try simp only [s_inj, bs_toList, nil_toList, bs_inj, u8_eq, UInt8.toNat_inj, decide_eq_true_eq, decide_eq_false_iff_not, Bool.not_eq_true', Bool.not_eq_false', bne_iff_ne, ne_eq, bne_eq_false_iff_eq, beq_iff_eq, beq_eq_false_iff_ne, Int.natCast_inj] at b2p
      refine aw_seq ?_
      refine aw_region ?_
      refine rr_pure (rp rfl) rfl rfl rfl ?_
      refine rr_nil rfl ?_
      refine then_n ?_
      refine aw_ret ?_
      refine then_r ?_
      exact fin_b rfl (by simp_all)
    · have b2p := b2; try simp only [s_inj, bs_toList, nil_toList, bs_inj, u8_eq, UInt8.toNat_inj, decide_eq_true_eq, decide_eq_false_iff_not, Bool.not_eq_true', Bool.not_eq_false', bne_iff_ne, ne_eq, bne_eq_false_iff_eq, beq_iff_eq, beq_eq_false_iff_ne, Int.natCast_inj] at b2p
      refine aw_skip ?_
      refine then_n ?_
      refine aw_seq ?_
      refine aw_region ?_
      refine rr_pure (rp rfl) rfl rfl rfl ?_
      refine rr_nil rfl ?_
      refine then_n ?_
      refine aw_ret ?_
      exact fin_b rfl (by simp_all)
theorem c8 {K : List (Nat × Go.Obj)} [hK : Nonempty (KOk K)] (H : Heap) {x : Lg} : ACalls (cx K) 8 [aL x] H (.v (aL x)) H := by
  refine acalls0 Tryd.func8 rfl rfl (fun S hS hw => ?_)
  refine aw_seq ?_
  refine aw_region ?_
  refine rr_memL (r_boxL rfl rfl) rfl rfl rfl ?_
  refine rr_memL (r_allocL rfl rfl) rfl rfl rfl ?_
  refine rr_nil rfl ?_
  refine then_n ?_
  refine aw_seq ?_
  refine aw_region ?_
  refine rr_memL (r_allocL rfl rfl) rfl rfl rfl ?_
  refine rr_nil rfl ?_
  refine then_n ?_
  refine aw_seq ?_
  refine aw_region ?_
  refine rr_pure (rp rfl) rfl rfl rfl ?_
  first
    | refine rr_read (r_loadL rfl rfl rfl rfl rfl) rfl rfl rfl ?_
    | refine rr_read (r_loadA rfl rfl rfl (Rd.at (by assumption) (by assumption)) rfl) rfl rfl rfl ?_
  refine rr_pure (rp rfl) rfl rfl rfl ?_
  refine rr_eff (r_storeL rfl rfl rfl rfl rfl rfl rfl (Nat.le_of_ble_eq_true rfl)) rfl rfl rfl (by simp) ?_
  refine rr_nil rfl ?_
  refine then_n ?_
  refine aw_seq ?_
  refine aw_region ?_
  refine rr_pure (rp rfl) rfl rfl rfl ?_
  first
    | refine rr_read (r_loadL rfl rfl rfl rfl rfl) rfl rfl rfl ?_
    | refine rr_read (r_loadA rfl rfl rfl (Rd.at (by assumption) (by assumption)) rfl) rfl rfl rfl ?_
  refine rr_pure (rp rfl) rfl rfl rfl ?_
  refine rr_eff (r_storeL rfl rfl rfl rfl rfl rfl rfl (Nat.le_of_ble_eq_true rfl)) rfl rfl rfl (by simp) ?_
  refine rr_nil rfl ?_
  refine then_n ?_
  refine aw_seq ?_
  refine aw_region ?_
  refine rr_pure (rp rfl) rfl rfl rfl ?_
  first
    | refine rr_read (r_loadL rfl rfl rfl rfl rfl) rfl rfl rfl ?_
    | refine rr_read (r_loadA rfl rfl rfl (Rd.at (by assumption) (by assumption)) rfl) rfl rfl rfl ?_
  refine rr_pure (rp rfl) rfl rfl rfl ?_
  refine rr_eff (r_storeL rfl rfl rfl rfl rfl rfl rfl (Nat.le_of_ble_eq_true rfl)) rfl rfl rfl (by simp) ?_
  refine rr_nil rfl ?_
  refine then_n ?_
  refine aw_seq ?_
  refine aw_region ?_
  first
    | refine rr_read (r_loadL rfl rfl rfl rfl rfl) rfl rfl rfl ?_
    | refine rr_read (r_loadA rfl rfl rfl (Rd.at (by assumption) (by assumption)) rfl) rfl rfl rfl ?_
  refine rr_eff (r_storeL rfl rfl rfl rfl rfl rfl rfl (Nat.le_of_ble_eq_true rfl)) rfl rfl rfl (by simp) ?_
  refine rr_nil rfl ?_
  refine then_n ?_
  refine aw_ret ?_
  exact fin_r (resA_cell rfl rfl rfl rfl resA_nil) rfl rfl rfl
def szLg (x : Lg) (left : Int) : Int := if left - x.p.length < 0 then -1 else szI x.n.length (left - x.p.length)
theorem szLg_ok {x : Lg} {left : Int} (h : ¬ szLg x left < 0) : (x.p.length : Int) ≤ left ∧ (x.n.length : Int) ≤ left := by
  unfold szLg szI at h
  split at h
  · omega
  · split at h <;> omega
theorem c6 {K : List (Nat × Go.Obj)} [hK : Nonempty (KOk K)] (H : Heap) {x : Lg} {left : Int} (hp : x.p.length ≤ 2 ^ 50) (hn : x.n.length ≤ 2 ^ 50) (hl : 0 ≤ left ∧ left ≤ 2 ^ 20) : ACalls (cx K) 6 [aL x, aI left] H (Vi .i64 (szLg x left)) H := by
  refine acalls0 Tryd.func6 rfl rfl (fun S hS hw => ?_)
  refine aw_seq ?_
  refine aw_region ?_
  refine rr_memL (r_boxL rfl rfl) rfl rfl rfl ?_
  refine rr_pure (rp rfl) rfl rfl rfl ?_
  refine rr_nil rfl ?_
  refine then_n ?_
  refine aw_seq ?_
  refine aw_region ?_
  refine rr_pure (rp rfl) rfl rfl rfl ?_
  refine rr_pure (rp rfl) rfl rfl rfl ?_
  first
    | refine rr_read (r_loadL rfl rfl rfl rfl rfl) rfl rfl rfl ?_
    | refine rr_read (r_loadA rfl rfl rfl (Rd.at (by assumption) (by assumption)) rfl) rfl rfl rfl ?_
  refine rr_pure (r_lenB rfl rfl rfl) rfl rfl rfl ?_
  refine rr_pure (r_subn rfl rfl rfl ⟨by omega, by omega⟩) rfl rfl rfl ?_
  refine rr_pure (rp rfl) rfl rfl rfl ?_
  refine rr_nil rfl ?_
  refine then_n ?_
  refine aw_seq ?_
  refine aw_seq ?_
  refine aw_region ?_
  refine rr_pure (rp rfl) rfl rfl rfl ?_
  refine rr_pure (rp rfl) rfl rfl rfl ?_
  refine rr_nil rfl ?_
  refine then_n ?_
  refine aw_cond rfl (fun b1 => ?_) (fun b1 => ?_)
  · have b1p := b1; try simp only [s_inj, bs_toList, nil_toList, bs_inj, u8_eq, UInt8.toNat_inj, decide_eq_true_eq, decide_eq_false_iff_not, Bool.not_eq_true', Bool.not_eq_false', bne_iff_ne, ne_eq, bne_eq_false_iff_eq, beq_iff_eq, beq_eq_false_iff_ne, Int.natCast_inj] at b1p
    refine aw_seq ?_
    refine aw_region ?_
    refine rr_pure (rp rfl) rfl rfl rfl ?_
    refine rr_nil rfl ?_
    refine then_n ?_
    refine aw_ret ?_
    refine then_r ?_
    exact fin_i rfl (by simp_all [szLg, szI] <;> omega)
  · have b1p := b1; try simp only [s_inj, bs_toList, nil_toList, bs_inj, u8_eq, UInt8.toNat_inj, decide_eq_true_eq, decide_eq_false_iff_not, Bool.not_eq_true', Bool.not_eq_false', bne_iff_ne, ne_eq, bne_eq_false_iff_eq, beq_iff_eq, beq_eq_false_iff_ne, Int.natCast_inj] at b1p
    refine aw_skip ?_
    refine then_n ?_
    refine aw_seq ?_
    refine aw_region ?_
    refine rr_pure (rp rfl) rfl rfl rfl ?_
    refine rr_pure (rp rfl) rfl rfl rfl ?_
    first
      | refine rr_read (r_loadL rfl rfl rfl rfl rfl) rfl rfl rfl ?_
      | refine rr_read (r_loadA rfl rfl rfl (Rd.at (by assumption) (by assumption)) rfl) rfl rfl rfl ?_
    refine rr_pure (r_lenB rfl rfl rfl) rfl rfl rfl ?_
    refine rr_pure (r_subn rfl rfl rfl ⟨by omega, by omega⟩) rfl rfl rfl ?_
    refine rr_pure (rp rfl) rfl rfl rfl ?_
    refine rr_nil rfl ?_
    refine then_n ?_
    refine aw_seq ?_
    refine aw_seq ?_
    refine aw_region ?_
    refine rr_pure (rp rfl) rfl rfl rfl ?_
    refine rr_pure (rp rfl) rfl rfl rfl ?_
    refine rr_nil rfl ?_
    refine then_n ?_
    refine aw_cond rfl (fun b2 => ?_) (fun b2 => ?_)
    · have b2p := b2; try simp only [s_inj, bs_toList, nil_toList, bs_inj, u8_eq, UInt8.toNat_inj, decide_eq_true_eq, decide_eq_false_iff_not, Bool.not_eq_true', Bool.not_eq_false', bne_iff_ne, ne_eq, bne_eq_false_iff_eq, beq_iff_eq, beq_eq_false_iff_ne, Int.natCast_inj] at b2p
      refine aw_seq ?_
      refine aw_region ?_
      refine rr_pure (rp rfl) rfl rfl rfl ?_
      refine rr_nil rfl ?_
      refine then_n ?_
      refine aw_ret ?_
      refine then_r ?_
      exact fin_i rfl (by simp_all [szLg, szI] <;> omega)
    · have b2p := b2; try simp only [s_inj, bs_toList, nil_toList, bs_inj, u8_eq, UInt8.toNat_inj, decide_eq_true_eq, decide_eq_false_iff_not, Bool.not_eq_true', Bool.not_eq_false', bne_iff_ne, ne_eq, bne_eq_false_iff_eq, beq_iff_eq, beq_eq_false_iff_ne, Int.natCast_inj] at b2p
      refine aw_skip ?_
      refine then_n ?_
      refine aw_seq ?_
      refine aw_region ?_
      refine rr_pure (rp rfl) rfl rfl rfl ?_
      refine rr_pure (rp rfl) rfl rfl rfl ?_
      refine rr_nil rfl ?_
      refine then_n ?_
      refine aw_ret ?_
      exact fin_i rfl (by simp_all [szLg, szI] <;> omega)
def szC (ws : List Wn) (x : Lg) (left : Int) : Int := if szI ws.length left < 0 then -1 else szLg x (szI ws.length left)
theorem szI_le {n : Nat} {left : Int} (h : ¬ szI n left < 0) : szI n left = left - n ∧ (n : Int) ≤ left := by
  unfold szI at h ⊢
  split at h
  · omega
  · rename_i h'; rw [if_neg h']; omega
theorem szC_ok {ws : List Wn} {x : Lg} {left : Int} (h : ¬ szC ws x left < 0) : (ws.length : Int) ≤ left ∧ (x.p.length : Int) ≤ left ∧ (x.n.length : Int) ≤ left := by
  unfold szC at h
  split at h
  · omega
  · rename_i h'
    have h1 := szI_le h'
    have h2 := szLg_ok h
    omega
theorem c16 {K : List (Nat × Go.Obj)} [hK : Nonempty (KOk K)] (H : Heap) {v : AC} {ws : List Wn} {x : Lg} {left : Int} (hr : ∃ H sz, Rd (α := Wn) (cx K) H sz eW v ws) (hn : ws.length ≤ 2 ^ 44) (hp : x.p.length ≤ 2 ^ 50) (hq : x.n.length ≤ 2 ^ 50) (hl : 0 ≤ left ∧ left ≤ 2 ^ 20) : ACalls (cx K) 16 [aC v x, aI left] H (Vi .i64 (szC ws x left)) H := by
  refine acalls0 Tryd.func16 rfl rfl (fun S hS hw => ?_)
  refine aw_seq ?_
  refine aw_region ?_
  refine rr_memL (r_boxL rfl rfl) rfl rfl rfl ?_
  refine rr_pure (rp rfl) rfl rfl rfl ?_
  refine rr_nil rfl ?_
  refine then_n ?_
  refine aw_seq ?_
  refine aw_region ?_
  refine rr_pure (rp rfl) rfl rfl rfl ?_
  first
    | refine rr_read (r_loadL rfl rfl rfl rfl rfl) rfl rfl rfl ?_
    | refine rr_read (r_loadA rfl rfl rfl (Rd.at (by assumption) (by assumption)) rfl) rfl rfl rfl ?_
  refine rr_pure (rp rfl) rfl rfl rfl ?_
  refine rr_read (r_callF rfl rfl rfl (c29 _ hr hn hl)) rfl rfl rfl  ?_
  refine rr_pure (rp rfl) rfl rfl rfl ?_
  refine rr_nil rfl ?_
  refine then_n ?_
  refine aw_seq ?_
  refine aw_seq ?_
  refine aw_region ?_
  refine rr_pure (rp rfl) rfl rfl rfl ?_
  refine rr_pure (rp rfl) rfl rfl rfl ?_
  refine rr_nil rfl ?_
  refine then_n ?_
  refine aw_cond rfl (fun b1 => ?_) (fun b1 => ?_)
  · have b1p := b1; try simp only [s_inj, bs_toList, nil_toList, bs_inj, u8_eq, UInt8.toNat_inj, decide_eq_true_eq, decide_eq_false_iff_not, Bool.not_eq_true', Bool.not_eq_false', bne_iff_ne, ne_eq, bne_eq_false_iff_eq, beq_iff_eq, beq_eq_false_iff_ne, Int.natCast_inj] at b1p
    refine aw_seq ?_
    refine aw_region ?_
    refine rr_pure (rp rfl) rfl rfl rfl ?_
    refine rr_nil rfl ?_
    refine then_n ?_
    refine aw_ret ?_
    refine then_r ?_
    exact fin_i rfl (by rw [szC, if_pos b1p])
  · have b1p := b1; try simp only [s_inj, bs_toList, nil_toList, bs_inj, u8_eq, UInt8.toNat_inj, decide_eq_true_eq, decide_eq_false_iff_not, Bool.not_eq_true', Bool.not_eq_false', bne_iff_ne, ne_eq, bne_eq_false_iff_eq, beq_iff_eq, beq_eq_false_iff_ne, Int.natCast_inj] at b1p
    have hz := szI_le b1p
    refine aw_skip ?_
    refine then_n ?_
    refine aw_seq ?_
    refine aw_region ?_
    refine rr_pure (rp rfl) rfl rfl rfl ?_
    first
      | refine rr_read (r_loadL rfl rfl rfl rfl rfl) rfl rfl rfl ?_
      | refine rr_read (r_loadA rfl rfl rfl (Rd.at (by assumption) (by assumption)) rfl) rfl rfl rfl ?_
    refine rr_pure (rp rfl) rfl rfl rfl ?_
    refine rr_read (r_callF rfl rfl rfl (c6 _ (x := x) hp hq (by omega))) rfl rfl rfl  ?_
    refine rr_pure (rp rfl) rfl rfl rfl ?_
    refine rr_nil rfl ?_
    refine then_n ?_
    refine aw_seq ?_
    refine aw_seq ?_
    refine aw_region ?_
    refine rr_pure (rp rfl) rfl rfl rfl ?_
    refine rr_pure (rp rfl) rfl rfl rfl ?_
    refine rr_nil rfl ?_
    refine then_n ?_
    refine aw_cond rfl (fun b2 => ?_) (fun b2 => ?_)
    · have b2p := b2; try simp only [s_inj, bs_toList, nil_toList, bs_inj, u8_eq, UInt8.toNat_inj, decide_eq_true_eq, decide_eq_false_iff_not, Bool.not_eq_true', Bool.not_eq_false', bne_iff_ne, ne_eq, bne_eq_false_iff_eq, beq_iff_eq, beq_eq_false_iff_ne, Int.natCast_inj] at b2p
      refine aw_seq ?_
      refine aw_region ?_
      refine rr_pure (rp rfl) rfl rfl rfl ?_
      refine rr_nil rfl ?_
      refine then_n ?_
      refine aw_ret ?_
      refine then_r ?_
      exact fin_i rfl (by rw [szC, if_neg b1p]; unfold szLg szI at *; split <;> (try split) <;> simp_all <;> omega)
    · have b2p := b2; try simp only [s_inj, bs_toList, nil_toList, bs_inj, u8_eq, UInt8.toNat_inj, decide_eq_true_eq, decide_eq_false_iff_not, Bool.not_eq_true', Bool.not_eq_false', bne_iff_ne, ne_eq, bne_eq_false_iff_eq, beq_iff_eq, beq_eq_false_iff_ne, Int.natCast_inj] at b2p
      refine aw_skip ?_
      refine then_n ?_
      refine aw_seq ?_
      refine aw_region ?_
      refine rr_pure (rp rfl) rfl rfl rfl ?_
      refine rr_pure (rp rfl) rfl rfl rfl ?_
      refine rr_nil rfl ?_
      refine then_n ?_
      refine aw_ret ?_
      exact fin_i rfl (by rw [szC, if_neg b1p])
theorem c18 {K : List (Nat × Go.Obj)} [hK : Nonempty (KOk K)] {H : Heap} {b : Nat} (hb : H.length = b) {v : AC} {ws : List Wn} {x : Lg} (hr : Rd (cx K) H 6 eW v ws) (hn : ws.length ≤ 2 ^ 40) : ACalls (cx K) 18 [aC v x] H (.v (aC (.sl (.l b) 0 ws.length ws.length true) x)) (H ++ [bW ws]) := by
  subst hb
  refine acallsN Tryd.func18 rfl rfl (fun S hS hw => ?_)
  refine aw_seq ?_
  refine aw_region ?_
  refine rr_memL (r_boxL rfl rfl) rfl rfl rfl ?_
  refine rr_memL (r_allocL rfl rfl) rfl rfl rfl ?_
  refine rr_nil rfl ?_
  refine then_n ?_
  refine aw_seq ?_
  refine aw_region ?_
  refine rr_memL (r_allocL rfl rfl) rfl rfl rfl ?_
  refine rr_nil rfl ?_
  refine then_n ?_
  refine aw_seq ?_
  refine aw_region ?_
  refine rr_pure (rp rfl) rfl rfl rfl ?_
  first
    | refine rr_read (r_loadL rfl rfl rfl rfl rfl) rfl rfl rfl ?_
    | refine rr_read (r_loadA rfl rfl rfl (Rd.at (by assumption) (by assumption)) rfl) rfl rfl rfl ?_
  refine rr_memL (r_callF rfl rfl rfl (c31 List.length_append hr.app hn)) rfl rfl rfl  ?_
  refine rr_pure (rp rfl) rfl rfl rfl ?_
  refine rr_eff (r_storeL rfl rfl rfl rfl rfl rfl rfl (Nat.le_of_ble_eq_true rfl)) rfl rfl rfl (by simp) ?_
  refine rr_nil rfl ?_
  refine then_n ?_
  refine aw_seq ?_
  refine aw_region ?_
  refine rr_pure (rp rfl) rfl rfl rfl ?_
  first
    | refine rr_read (r_loadL rfl rfl rfl rfl rfl) rfl rfl rfl ?_
    | refine rr_read (r_loadA rfl rfl rfl (Rd.at (by assumption) (by assumption)) rfl) rfl rfl rfl ?_
  refine rr_read (r_callF rfl rfl rfl (c8 _ (x := x))) rfl rfl rfl  ?_
  refine rr_pure (rp rfl) rfl rfl rfl ?_
  refine rr_eff (r_storeL rfl rfl rfl rfl rfl rfl rfl (Nat.le_of_ble_eq_true rfl)) rfl rfl rfl (by simp) ?_
  refine rr_nil rfl ?_
  refine then_n ?_
  refine aw_seq ?_
  refine aw_region ?_
  first
    | refine rr_read (r_loadL rfl rfl rfl rfl rfl) rfl rfl rfl ?_
    | refine rr_read (r_loadA rfl rfl rfl (Rd.at (by assumption) (by assumption)) rfl) rfl rfl rfl ?_
  refine rr_eff (r_storeL rfl rfl rfl rfl rfl rfl rfl (Nat.le_of_ble_eq_true rfl)) rfl rfl rfl (by simp) ?_
  refine rr_nil rfl ?_
  refine then_n ?_
  refine aw_ret ?_
  exact fin_mv [3] (resA_cell rfl rfl rfl rfl resA_nil) (mv_one rfl (flat_plain pW ws)) (by simp [resT, AT.ren, AV.ren, AC.ren, renB_base, eL]; rfl) (by simp [Lo, AT.ids, AV.ids, AC.ids, eL])
noncomputable def validC (ws : List Wn) (x : Lg) : Bool := okList ws && validLog x
theorem c19 {K : List (Nat × Go.Obj)} [hK : Nonempty (KOk K)] (H : Heap) {v : AC} {ws : List Wn} {x : Lg} (hr : Rd (cx K) H 6 eW v ws) (hn : ws.length ≤ 2 ^ 40) (hp : x.p.length ≤ 2 ^ 30) (hq : x.n.length ≤ 2 ^ 30) : ACalls (cx K) 19 [aC v x] H (Vb (validC ws x)) H := by
  refine acalls0 Tryd.func19 rfl rfl (fun S hS hw => ?_)
  refine aw_seq ?_
  refine aw_region ?_
  refine rr_memL (r_boxL rfl rfl) rfl rfl rfl ?_
  refine rr_pure (rp rfl) rfl rfl rfl ?_
  refine rr_nil rfl ?_
  refine then_n ?_
  refine aw_seq ?_
  refine aw_region ?_
  refine rr_pure (rp rfl) rfl rfl rfl ?_
  first
    | refine rr_read (r_loadL rfl rfl rfl rfl rfl) rfl rfl rfl ?_
    | refine rr_read (r_loadA rfl rfl rfl (Rd.at (by assumption) (by assumption)) rfl) rfl rfl rfl ?_
  refine rr_read (r_callF rfl rfl rfl (c32 _ hr.app hn)) rfl rfl rfl  ?_
  refine rr_pure (rp rfl) rfl rfl rfl ?_
  refine rr_split rfl (fun g1 => ?_) (fun g1 => ?_)
  · have g1p := g1; try simp only [s_inj, bs_toList, nil_toList, bs_inj, u8_eq, UInt8.toNat_inj, decide_eq_true_eq, decide_eq_false_iff_not, Bool.not_eq_true', Bool.not_eq_false', bne_iff_ne, ne_eq, bne_eq_false_iff_eq, beq_iff_eq, beq_eq_false_iff_ne, Int.natCast_inj] at g1p
    refine rr_pure (rp rfl) rfl rfl g1 ?_
    first
      | refine rr_read (r_loadL rfl rfl rfl rfl rfl) rfl rfl g1 ?_
      | refine rr_read (r_loadA rfl rfl rfl (Rd.at (by assumption) (by assumption)) rfl) rfl rfl g1 ?_
    refine rr_read (r_callF rfl rfl rfl (c15 _ (x := x) hp hq)) rfl rfl g1  ?_
    refine rr_pure (r_pick_t rfl rfl g1 rfl) rfl rfl rfl ?_
    refine rr_pure (rp rfl) rfl rfl rfl ?_
    refine rr_nil rfl ?_
    refine then_n ?_
    refine aw_ret ?_
    exact fin_b rfl (by simp_all [validC])
  · have g1p := g1; try simp only [s_inj, bs_toList, nil_toList, bs_inj, u8_eq, UInt8.toNat_inj, decide_eq_true_eq, decide_eq_false_iff_not, Bool.not_eq_true', Bool.not_eq_false', bne_iff_ne, ne_eq, bne_eq_false_iff_eq, beq_iff_eq, beq_eq_false_iff_ne, Int.natCast_inj] at g1p
    refine rr_skip rfl rfl g1 ?_
    refine rr_skip rfl rfl g1 ?_
    refine rr_skip rfl rfl g1 ?_
    refine rr_pure (r_pick_f rfl rfl g1 rfl) rfl rfl rfl ?_
    refine rr_pure (rp rfl) rfl rfl rfl ?_
    refine rr_nil rfl ?_
    refine then_n ?_
    refine aw_ret ?_
    exact fin_b rfl (by simp_all [validC])
theorem c30 {K : List (Nat × Go.Obj)} [hK : Nonempty (KOk K)] (H : Heap) {v : AC} {ws : List Wn} {x : Lg} (hr : Rd (cx K) H 6 eW v ws) (hn : ws.length ≤ 2 ^ 40) (hp : x.p.length ≤ 2 ^ 30) (hq : x.n.length ≤ 2 ^ 30) : ACalls (cx K) 30 [aC v x] H (Vb (validC ws x)) H := by
  refine acalls0 Tryd.func30 rfl rfl (fun S hS hw => ?_)
  refine aw_seq ?_
  refine aw_region ?_
  refine rr_memL (r_boxL rfl rfl) rfl rfl rfl ?_
  refine rr_pure (rp rfl) rfl rfl rfl ?_
  refine rr_nil rfl ?_
  refine then_n ?_
  refine aw_seq ?_
  refine aw_region ?_
  refine rr_pure (rp rfl) rfl rfl rfl ?_
  first
    | refine rr_read (r_loadL rfl rfl rfl rfl rfl) rfl rfl rfl ?_
    | refine rr_read (r_loadA rfl rfl rfl (Rd.at (by assumption) (by assumption)) rfl) rfl rfl rfl ?_
  refine rr_read (r_callF rfl rfl rfl (c44 _ hr.app hn)) rfl rfl rfl  ?_
  refine rr_pure (rp rfl) rfl rfl rfl ?_
  refine rr_split rfl (fun g1 => ?_) (fun g1 => ?_)
  · have g1p := g1; try simp only [s_inj, bs_toList, nil_toList, bs_inj, u8_eq, UInt8.toNat_inj, decide_eq_true_eq, decide_eq_false_iff_not, Bool.not_eq_true', Bool.not_eq_false', bne_iff_ne, ne_eq, bne_eq_false_iff_eq, beq_iff_eq, beq_eq_false_iff_ne, Int.natCast_inj] at g1p
    refine rr_pure (rp rfl) rfl rfl g1 ?_
    first
      | refine rr_read (r_loadL rfl rfl rfl rfl rfl) rfl rfl g1 ?_
      | refine rr_read (r_loadA rfl rfl rfl (Rd.at (by assumption) (by assumption)) rfl) rfl rfl g1 ?_
    refine rr_read (r_callF rfl rfl rfl (c21 _ (x := x) hp hq)) rfl rfl g1  ?_
    refine rr_pure (r_pick_t rfl rfl g1 rfl) rfl rfl rfl ?_
    refine rr_pure (rp rfl) rfl rfl rfl ?_
    refine rr_nil rfl ?_
    refine then_n ?_
    refine aw_ret ?_
    exact fin_b rfl (by simp_all [validC])
  · have g1p := g1; try simp only [s_inj, bs_toList, nil_toList, bs_inj, u8_eq, UInt8.toNat_inj, decide_eq_true_eq, decide_eq_false_iff_not, Bool.not_eq_true', Bool.not_eq_false', bne_iff_ne, ne_eq, bne_eq_false_iff_eq, beq_iff_eq, beq_eq_false_iff_ne, Int.natCast_inj] at g1p
    refine rr_skip rfl rfl g1 ?_
    refine rr_skip rfl rfl g1 ?_
    refine rr_skip rfl rfl g1 ?_
    refine rr_pure (r_pick_f rfl rfl g1 rfl) rfl rfl rfl ?_
    refine rr_pure (rp rfl) rfl rfl rfl ?_
    refine rr_nil rfl ?_
    refine then_n ?_
    refine aw_ret ?_
    exact fin_b rfl (by simp_all [validC])
theorem c17 {K : List (Nat × Go.Obj)} [hK : Nonempty (KOk K)] (H : Heap) {v : AC} {ws : List Wn} {x : Lg} (hr : Rd (cx K) H 6 eW v ws) (hn : ws.length ≤ 2 ^ 40) (hp : x.p.length ≤ 2 ^ 30) (hq : x.n.length ≤ 2 ^ 30) : ACalls (cx K) 17 [aC v x] H (Vb (validC ws x)) H := by
  refine acalls0 Tryd.func17 rfl rfl (fun S hS hw => ?_)
  refine aw_seq ?_
  refine aw_region ?_
  refine rr_memL (r_boxL rfl rfl) rfl rfl rfl ?_
  refine rr_pure (rp rfl) rfl rfl rfl ?_
  refine rr_nil rfl ?_
  refine then_n ?_
  refine aw_seq ?_
  refine aw_region ?_
  first
    | refine rr_read (r_loadL rfl rfl rfl rfl rfl) rfl rfl rfl ?_
    | refine rr_read (r_loadA rfl rfl rfl (Rd.at (by assumption) (by assumption)) rfl) rfl rfl rfl ?_
  refine rr_read (r_callF rfl rfl rfl (c30 _ (x := x) hr.app hn hp hq)) rfl rfl rfl  ?_
  refine rr_pure (rp rfl) rfl rfl rfl ?_
  refine rr_nil rfl ?_
  refine then_n ?_
  refine aw_ret ?_
  exact fin_b rfl rfl
end Go.Proofs.YtfdopoijhjbamaaDoor
