/- Draws out of bytes. -/
import Derived.Test.YtfdopoijhjbamaaDoorN1
import Derived.Test.YtfdopoijhjbamaaDoorAwX
namespace Go.Proofs.YtfdopoijhjbamaaDoor
open Go.Aw Go.RowKit
set_option maxRecDepth 100000
set_option maxHeartbeats 1000000
set_option linter.unusedSimpArgs false
set_option linter.unusedVariables false
theorem cur_lo {K : List (Nat × Go.Obj)} [hK : Nonempty (KOk K)] {G : Heap} {m : Nat} {v : AC} {a : List UInt8} (c' : Cur) (hr : RdC (cx K) G m 1 eC v a) : ∀ c ∈ [v, AC.s (.int .i64 (c'.i : Int)), AC.s (.int .u64 c'.u)], Lo G.length c.ids := by
  intro c hc
  simp only [List.mem_cons, List.not_mem_nil, or_false] at hc
  rcases hc with rfl | rfl | rfl
  · exact hr.lo
  · intro q hq; simp [AC.ids] at hq
  · intro q hq; simp [AC.ids] at hq
theorem b_at {c : Cur} {x : UInt8} (h : c.a[c.i]? = some x) : c.b = (x.toNat : Int) := by unfold Cur.b; rw [h]; rfl
theorem b_no {c : Cur} (h : ¬ c.i < c.a.length) : c.b = 0 := by unfold Cur.b; rw [List.getElem?_eq_none (by omega)]; rfl
theorem c37 {K : List (Nat × Go.Obj)} [hK : Nonempty (KOk K)] {G : Heap} {m : Nat} {v : AC} {c : Cur} (hm : G[m]? = some (curB v c)) (hr : RdC (cx K) G m 1 eC v c.a) (hi : c.i ≤ 2 ^ 61) (hl : c.a.length ≤ 2 ^ 50) : ACalls (cx K) 37 [.c (.pt (.l m) 0)] G (Vi .i64 c.v) (G.set m (curB v c.next)) := by
  refine acallsC hm (cur_lo c.next hr) Tryd.func37 rfl rfl (fun S hS hw => ?_)
  refine aw_seq ?_
  refine aw_region ?_
  refine rr_pure (rp rfl) rfl rfl rfl ?_
  refine rr_nil rfl ?_
  refine then_n ?_
  refine aw_seq ?_
  refine aw_region ?_
  refine rr_pure (rp rfl) rfl rfl rfl ?_
  refine rr_nil rfl ?_
  refine then_n ?_
  refine aw_seq ?_
  refine aw_seq ?_
  refine aw_region_draw ?_
  refine rr_pure (rp rfl) rfl rfl rfl ?_
  refine rr_pure (r_nilc rfl rfl) rfl rfl rfl ?_
  refine rr_pure (rp rfl) rfl rfl rfl ?_
  first
    | refine rr_read (r_loadL rfl rfl rfl rfl rfl) rfl rfl rfl ?_
    | refine rr_read (r_loadA rfl rfl rfl (Rd.at (by assumption) (by assumption)) rfl) rfl rfl rfl ?_
    | refine rr_read (r_loadG rfl rfl rfl (by assumption) rfl rfl) rfl rfl rfl ?_
  refine rr_pure (rp rfl) rfl rfl rfl ?_
  refine rr_pure (r_nilc rfl rfl) rfl rfl rfl ?_
  refine rr_pure (rp rfl) rfl rfl rfl ?_
  first
    | refine rr_read (r_loadL rfl rfl rfl rfl rfl) rfl rfl rfl ?_
    | refine rr_read (r_loadA rfl rfl rfl (Rd.at (by assumption) (by assumption)) rfl) rfl rfl rfl ?_
    | refine rr_read (r_loadG rfl rfl rfl (by assumption) rfl rfl) rfl rfl rfl ?_
  first
    | refine rr_pure (rp rfl) rfl rfl rfl ?_
    | refine rr_pure (r_lenR rfl rfl rfl ⟨_, _, RdC.rd (by assumption)⟩) rfl rfl rfl ?_
  refine rr_pure (rp rfl) rfl rfl rfl ?_
  refine rr_nil (by kernel_rfl) ?_
  refine then_n ?_
  refine aw_cond rfl (fun b1 => ?_) (fun b1 => ?_)
  · have b1p := b1; try simp only [s_inj, bs_toList, nil_toList, bs_inj, u8_eq, UInt8.toNat_inj, decide_eq_true_eq, decide_eq_false_iff_not, Bool.not_eq_true', Bool.not_eq_false', bne_iff_ne, ne_eq, bne_eq_false_iff_eq, beq_iff_eq, beq_eq_false_iff_ne, Int.natCast_inj] at b1p
    obtain ⟨x, hx⟩ := at_lt c.a (i := c.i) (by omega)
    have hb := b_at hx
    have hxb := x.toNat_lt
    refine aw_region_draw ?_
    refine rr_pure (rp rfl) rfl rfl rfl ?_
    refine rr_pure (r_nilc rfl rfl) rfl rfl rfl ?_
    refine rr_pure (rp rfl) rfl rfl rfl ?_
    first
      | refine rr_read (r_loadL rfl rfl rfl rfl rfl) rfl rfl rfl ?_
      | refine rr_read (r_loadA rfl rfl rfl (Rd.at (by assumption) (by assumption)) rfl) rfl rfl rfl ?_
      | refine rr_read (r_loadG rfl rfl rfl (by assumption) rfl rfl) rfl rfl rfl ?_
    refine rr_pure (rp rfl) rfl rfl rfl ?_
    refine rr_pure (r_nilc rfl rfl) rfl rfl rfl ?_
    refine rr_pure (rp rfl) rfl rfl rfl ?_
    first
      | refine rr_read (r_loadL rfl rfl rfl rfl rfl) rfl rfl rfl ?_
      | refine rr_read (r_loadA rfl rfl rfl (Rd.at (by assumption) (by assumption)) rfl) rfl rfl rfl ?_
      | refine rr_read (r_loadG rfl rfl rfl (by assumption) rfl rfl) rfl rfl rfl ?_
    refine rr_pure (r_idxR rfl rfl rfl rfl rfl ⟨_, _, RdC.rd (by assumption)⟩ (by omega) (by omega)) rfl rfl rfl ?_
    refine rr_read (r_loadA rfl rfl rfl (Rd.at hr.rd hx) rfl) rfl rfl rfl ?_
    refine rr_pure (r_conv8 rfl rfl rfl rfl) rfl rfl rfl ?_
    refine rr_pure (rp rfl) rfl rfl rfl ?_
    refine rr_nil (by kernel_rfl) ?_
    refine then_n ?_
    refine aw_seq ?_
    refine aw_region ?_
    refine rr_pure (rp rfl) rfl rfl rfl ?_
    refine rr_pure (r_nilc rfl rfl) rfl rfl rfl ?_
    refine rr_pure (rp rfl) rfl rfl rfl ?_
    first
      | refine rr_read (r_loadL rfl rfl rfl rfl rfl) rfl rfl rfl ?_
      | refine rr_read (r_loadA rfl rfl rfl (Rd.at (by assumption) (by assumption)) rfl) rfl rfl rfl ?_
      | refine rr_read (r_loadG rfl rfl rfl (by assumption) rfl rfl) rfl rfl rfl ?_
    refine rr_pure (r_addn rfl rfl rfl ⟨by omega, by omega⟩) rfl rfl rfl ?_
    refine rr_pure (r_nilc rfl rfl) rfl rfl rfl ?_
    refine rr_pure (rp rfl) rfl rfl rfl ?_
    refine rr_eff (r_storeG rfl rfl rfl rfl hm rfl rfl (Nat.le_of_ble_eq_true rfl)) rfl rfl rfl (by simp) ?_
    generalize hG1 : List.set G m _ = G1
    have l1 : G1.length = G.length := by rw [← hG1, List.length_set]
    have m1 : G1[m]? = some (some ⟨[v, .s (.int .i64 ((c.i : Int) + 1)), .s (.int .u64 c.u)], true, 0⟩) := by rw [← hG1]; exact set_at hm
    have hr1 : RdC (cx K) G1 m 1 eC v c.a := by rw [← hG1]; exact hr.set _
    try rw [← l1]
    refine rr_nil rfl ?_
    refine then_n ?_
    refine aw_seq ?_
    refine aw_region ?_
    refine rr_pure (rp rfl) rfl rfl rfl ?_
    refine rr_pure (rp rfl) rfl rfl rfl ?_
    refine rr_pure (r_nilc rfl rfl) rfl rfl rfl ?_
    refine rr_pure (rp rfl) rfl rfl rfl ?_
    first
      | refine rr_read (r_loadL rfl rfl rfl rfl rfl) rfl rfl rfl ?_
      | refine rr_read (r_loadA rfl rfl rfl (Rd.at (by assumption) (by assumption)) rfl) rfl rfl rfl ?_
      | refine rr_read (r_loadG rfl rfl rfl (by assumption) rfl rfl) rfl rfl rfl ?_
    refine rr_pure (r_mulW rfl rfl rfl) rfl rfl rfl ?_
    refine rr_pure (rp rfl) rfl rfl rfl ?_
    refine rr_pure (r_convW rfl rfl rfl rfl) rfl rfl rfl ?_
    refine rr_pure (r_addW rfl rfl rfl) rfl rfl rfl ?_
    refine rr_pure (r_addW rfl rfl rfl) rfl rfl rfl ?_
    refine rr_pure (r_nilc rfl rfl) rfl rfl rfl ?_
    refine rr_pure (rp rfl) rfl rfl rfl ?_
    refine rr_eff (r_storeG rfl rfl rfl rfl m1 rfl rfl (Nat.le_of_ble_eq_true rfl)) rfl rfl rfl (by simp) ?_
    generalize hG2 : List.set G1 m _ = G2
    have m2 : G2[m]? = some (some ⟨[v, .s (.int .i64 ((c.i : Int) + 1)), .s (.int .u64 c.w)], true, 0⟩) := by rw [← hG2]; simp only [Cur.w, hb]; exact set_at m1
    have hr2 : RdC (cx K) G2 m 1 eC v c.a := by rw [← hG2]; exact hr1.set _
    refine rr_nil rfl ?_
    refine then_n ?_
    refine aw_seq ?_
    refine aw_seq ?_
    refine aw_region_draw ?_
    refine rr_pure (rp rfl) rfl rfl rfl ?_
    refine rr_pure (r_nilc rfl rfl) rfl rfl rfl ?_
    refine rr_pure (rp rfl) rfl rfl rfl ?_
    first
      | refine rr_read (r_loadL rfl rfl rfl rfl rfl) rfl rfl rfl ?_
      | refine rr_read (r_loadA rfl rfl rfl (Rd.at (by assumption) (by assumption)) rfl) rfl rfl rfl ?_
      | refine rr_read (r_loadG rfl rfl rfl (by assumption) rfl rfl) rfl rfl rfl ?_
    refine rr_pure (rp rfl) rfl rfl rfl ?_
    refine rr_pure (r_nilc rfl rfl) rfl rfl rfl ?_
    refine rr_pure (rp rfl) rfl rfl rfl ?_
    first
      | refine rr_read (r_loadL rfl rfl rfl rfl rfl) rfl rfl rfl ?_
      | refine rr_read (r_loadA rfl rfl rfl (Rd.at (by assumption) (by assumption)) rfl) rfl rfl rfl ?_
      | refine rr_read (r_loadG rfl rfl rfl (by assumption) rfl rfl) rfl rfl rfl ?_
    first
      | refine rr_pure (rp rfl) rfl rfl rfl ?_
      | refine rr_pure (r_lenR rfl rfl rfl ⟨_, _, RdC.rd (by assumption)⟩) rfl rfl rfl ?_
    refine rr_pure (rp rfl) rfl rfl rfl ?_
    refine rr_nil (by kernel_rfl) ?_
    refine then_n ?_
    refine aw_cond rfl (fun b2 => ?_) (fun b2 => ?_)
    · have b2p := b2; try simp only [s_inj, bs_toList, nil_toList, bs_inj, u8_eq, UInt8.toNat_inj, decide_eq_true_eq, decide_eq_false_iff_not, Bool.not_eq_true', Bool.not_eq_false', bne_iff_ne, ne_eq, bne_eq_false_iff_eq, beq_iff_eq, beq_eq_false_iff_ne, Int.natCast_inj] at b2p
      refine aw_seq ?_
      refine aw_region ?_
      refine rr_pure (rp rfl) rfl rfl rfl ?_
      refine rr_pure (rp rfl) rfl rfl rfl ?_
      refine rr_nil rfl ?_
      refine then_n ?_
      refine aw_ret ?_
      refine then_r ?_
      exact fin_iM (J := []) (by rw [← hG2, ← hG1, List.set_set]; show _ = G.set m (some ⟨[v, .s (.int .i64 ((c.i : Int) + 1)), .s (.int .u64 c.w)], true, 0⟩) ++ []; simp only [Cur.w, hb]; rfl) (resA_tmp rfl resA_nil) (by unfold Cur.v; rw [if_pos (by omega), hb])
    · have b2p := b2; try simp only [s_inj, bs_toList, nil_toList, bs_inj, u8_eq, UInt8.toNat_inj, decide_eq_true_eq, decide_eq_false_iff_not, Bool.not_eq_true', Bool.not_eq_false', bne_iff_ne, ne_eq, bne_eq_false_iff_eq, beq_iff_eq, beq_eq_false_iff_ne, Int.natCast_inj] at b2p
      refine aw_skip ?_
      refine then_n ?_
      refine aw_seq ?_
      refine aw_region ?_
      refine rr_pure (rp rfl) rfl rfl rfl ?_
      refine rr_pure (r_nilc rfl rfl) rfl rfl rfl ?_
      refine rr_pure (rp rfl) rfl rfl rfl ?_
      first
        | refine rr_read (r_loadL rfl rfl rfl rfl rfl) rfl rfl rfl ?_
        | refine rr_read (r_loadA rfl rfl rfl (Rd.at (by assumption) (by assumption)) rfl) rfl rfl rfl ?_
        | refine rr_read (r_loadG rfl rfl rfl (by assumption) rfl rfl) rfl rfl rfl ?_
      refine rr_pure (r_shrW rfl rfl rfl (by decide)) rfl rfl rfl ?_
      refine rr_pure (r_andW rfl rfl rfl) rfl rfl rfl ?_
      refine rr_pure (r_convW rfl rfl rfl rfl) rfl rfl rfl ?_
      refine rr_pure (rp rfl) rfl rfl rfl ?_
      refine rr_nil rfl ?_
      refine then_n ?_
      refine aw_ret ?_
      exact fin_iM (J := []) (by rw [← hG2, ← hG1, List.set_set]; show _ = G.set m (some ⟨[v, .s (.int .i64 ((c.i : Int) + 1)), .s (.int .u64 c.w)], true, 0⟩) ++ []; simp only [Cur.w, hb]; rfl) (resA_tmp rfl resA_nil) (by unfold Cur.v; rw [if_neg (by omega)]; rfl)
  · have b1p := b1; try simp only [s_inj, bs_toList, nil_toList, bs_inj, u8_eq, UInt8.toNat_inj, decide_eq_true_eq, decide_eq_false_iff_not, Bool.not_eq_true', Bool.not_eq_false', bne_iff_ne, ne_eq, bne_eq_false_iff_eq, beq_iff_eq, beq_eq_false_iff_ne, Int.natCast_inj] at b1p
    have hb := b_no (c := c) (by omega)
    refine aw_skip ?_
    refine then_n ?_
    refine aw_seq ?_
    refine aw_region ?_
    refine rr_pure (rp rfl) rfl rfl rfl ?_
    refine rr_pure (r_nilc rfl rfl) rfl rfl rfl ?_
    refine rr_pure (rp rfl) rfl rfl rfl ?_
    first
      | refine rr_read (r_loadL rfl rfl rfl rfl rfl) rfl rfl rfl ?_
      | refine rr_read (r_loadA rfl rfl rfl (Rd.at (by assumption) (by assumption)) rfl) rfl rfl rfl ?_
      | refine rr_read (r_loadG rfl rfl rfl (by assumption) rfl rfl) rfl rfl rfl ?_
    refine rr_pure (r_addn rfl rfl rfl ⟨by omega, by omega⟩) rfl rfl rfl ?_
    refine rr_pure (r_nilc rfl rfl) rfl rfl rfl ?_
    refine rr_pure (rp rfl) rfl rfl rfl ?_
    refine rr_eff (r_storeG rfl rfl rfl rfl hm rfl rfl (Nat.le_of_ble_eq_true rfl)) rfl rfl rfl (by simp) ?_
    generalize hG1 : List.set G m _ = G1
    have l1 : G1.length = G.length := by rw [← hG1, List.length_set]
    have m1 : G1[m]? = some (some ⟨[v, .s (.int .i64 ((c.i : Int) + 1)), .s (.int .u64 c.u)], true, 0⟩) := by rw [← hG1]; exact set_at hm
    have hr1 : RdC (cx K) G1 m 1 eC v c.a := by rw [← hG1]; exact hr.set _
    try rw [← l1]
    refine rr_nil rfl ?_
    refine then_n ?_
    refine aw_seq ?_
    refine aw_region ?_
    refine rr_pure (rp rfl) rfl rfl rfl ?_
    refine rr_pure (rp rfl) rfl rfl rfl ?_
    refine rr_pure (r_nilc rfl rfl) rfl rfl rfl ?_
    refine rr_pure (rp rfl) rfl rfl rfl ?_
    first
      | refine rr_read (r_loadL rfl rfl rfl rfl rfl) rfl rfl rfl ?_
      | refine rr_read (r_loadA rfl rfl rfl (Rd.at (by assumption) (by assumption)) rfl) rfl rfl rfl ?_
      | refine rr_read (r_loadG rfl rfl rfl (by assumption) rfl rfl) rfl rfl rfl ?_
    refine rr_pure (r_mulW rfl rfl rfl) rfl rfl rfl ?_
    refine rr_pure (rp rfl) rfl rfl rfl ?_
    refine rr_pure (r_convW rfl rfl rfl rfl) rfl rfl rfl ?_
    refine rr_pure (r_addW rfl rfl rfl) rfl rfl rfl ?_
    refine rr_pure (r_addW rfl rfl rfl) rfl rfl rfl ?_
    refine rr_pure (r_nilc rfl rfl) rfl rfl rfl ?_
    refine rr_pure (rp rfl) rfl rfl rfl ?_
    refine rr_eff (r_storeG rfl rfl rfl rfl m1 rfl rfl (Nat.le_of_ble_eq_true rfl)) rfl rfl rfl (by simp) ?_
    generalize hG2 : List.set G1 m _ = G2
    have m2 : G2[m]? = some (some ⟨[v, .s (.int .i64 ((c.i : Int) + 1)), .s (.int .u64 c.w)], true, 0⟩) := by rw [← hG2]; simp only [Cur.w, hb]; exact set_at m1
    have hr2 : RdC (cx K) G2 m 1 eC v c.a := by rw [← hG2]; exact hr1.set _
    refine rr_nil rfl ?_
    refine then_n ?_
    refine aw_seq ?_
    refine aw_seq ?_
    refine aw_region_draw ?_
    refine rr_pure (rp rfl) rfl rfl rfl ?_
    refine rr_pure (r_nilc rfl rfl) rfl rfl rfl ?_
    refine rr_pure (rp rfl) rfl rfl rfl ?_
    first
      | refine rr_read (r_loadL rfl rfl rfl rfl rfl) rfl rfl rfl ?_
      | refine rr_read (r_loadA rfl rfl rfl (Rd.at (by assumption) (by assumption)) rfl) rfl rfl rfl ?_
      | refine rr_read (r_loadG rfl rfl rfl (by assumption) rfl rfl) rfl rfl rfl ?_
    refine rr_pure (rp rfl) rfl rfl rfl ?_
    refine rr_pure (r_nilc rfl rfl) rfl rfl rfl ?_
    refine rr_pure (rp rfl) rfl rfl rfl ?_
    first
      | refine rr_read (r_loadL rfl rfl rfl rfl rfl) rfl rfl rfl ?_
      | refine rr_read (r_loadA rfl rfl rfl (Rd.at (by assumption) (by assumption)) rfl) rfl rfl rfl ?_
      | refine rr_read (r_loadG rfl rfl rfl (by assumption) rfl rfl) rfl rfl rfl ?_
    first
      | refine rr_pure (rp rfl) rfl rfl rfl ?_
      | refine rr_pure (r_lenR rfl rfl rfl ⟨_, _, RdC.rd (by assumption)⟩) rfl rfl rfl ?_
    refine rr_pure (rp rfl) rfl rfl rfl ?_
    refine rr_nil (by kernel_rfl) ?_
    refine then_n ?_
    refine aw_cond rfl (fun b3 => ?_) (fun b3 => ?_)
    · have b3p := b3; try simp only [s_inj, bs_toList, nil_toList, bs_inj, u8_eq, UInt8.toNat_inj, decide_eq_true_eq, decide_eq_false_iff_not, Bool.not_eq_true', Bool.not_eq_false', bne_iff_ne, ne_eq, bne_eq_false_iff_eq, beq_iff_eq, beq_eq_false_iff_ne, Int.natCast_inj] at b3p
      refine aw_seq ?_
      refine aw_region ?_
      refine rr_pure (rp rfl) rfl rfl rfl ?_
      refine rr_pure (rp rfl) rfl rfl rfl ?_
      refine rr_nil rfl ?_
      refine then_n ?_
      refine aw_ret ?_
      refine then_r ?_
      exfalso; omega
    · have b3p := b3; try simp only [s_inj, bs_toList, nil_toList, bs_inj, u8_eq, UInt8.toNat_inj, decide_eq_true_eq, decide_eq_false_iff_not, Bool.not_eq_true', Bool.not_eq_false', bne_iff_ne, ne_eq, bne_eq_false_iff_eq, beq_iff_eq, beq_eq_false_iff_ne, Int.natCast_inj] at b3p
      refine aw_skip ?_
      refine then_n ?_
      refine aw_seq ?_
      refine aw_region ?_
      refine rr_pure (rp rfl) rfl rfl rfl ?_
      refine rr_pure (r_nilc rfl rfl) rfl rfl rfl ?_
      refine rr_pure (rp rfl) rfl rfl rfl ?_
      first
        | refine rr_read (r_loadL rfl rfl rfl rfl rfl) rfl rfl rfl ?_
        | refine rr_read (r_loadA rfl rfl rfl (Rd.at (by assumption) (by assumption)) rfl) rfl rfl rfl ?_
        | refine rr_read (r_loadG rfl rfl rfl (by assumption) rfl rfl) rfl rfl rfl ?_
      refine rr_pure (r_shrW rfl rfl rfl (by decide)) rfl rfl rfl ?_
      refine rr_pure (r_andW rfl rfl rfl) rfl rfl rfl ?_
      refine rr_pure (r_convW rfl rfl rfl rfl) rfl rfl rfl ?_
      refine rr_pure (rp rfl) rfl rfl rfl ?_
      refine rr_nil rfl ?_
      refine then_n ?_
      refine aw_ret ?_
      exact fin_iM (J := []) (by rw [← hG2, ← hG1, List.set_set]; show _ = G.set m (some ⟨[v, .s (.int .i64 ((c.i : Int) + 1)), .s (.int .u64 c.w)], true, 0⟩) ++ []; simp only [Cur.w, hb]; rfl) (resA_tmp rfl resA_nil) (by unfold Cur.v; rw [if_neg (by omega)]; rfl)
theorem pick_1 {c : Cur} {n : Int} (h : n ≤ 1) : c.pick n = (0, c) := by unfold Cur.pick; rw [if_pos h]
theorem pick_2 {c : Cur} {n : Int} (h : ¬ n ≤ 1) (h2 : n > 200) : c.pick n = ((c.v * 256 + c.next.v).tmod n, c.next.next) := by unfold Cur.pick; rw [if_neg h, if_pos h2]
theorem pick_3 {c : Cur} {n : Int} (h : ¬ n ≤ 1) (h2 : ¬ n > 200) : c.pick n = (c.v.tmod n, c.next) := by unfold Cur.pick; rw [if_neg h, if_neg h2]
theorem c25 {K : List (Nat × Go.Obj)} [hK : Nonempty (KOk K)] {G : Heap} {m : Nat} {v : AC} {c : Cur} {n : Int} (hm : G[m]? = some (curB v c)) (hr : RdC (cx K) G m 1 eC v c.a) (hi : c.i ≤ 2 ^ 60) (hl : c.a.length ≤ 2 ^ 50) : ACalls (cx K) 25 [.c (.pt (.l m) 0), aI n] G (Vi .i64 (c.pick n).1) (G.set m (curB v (c.pick n).2)) := by
  have hv1 := c.v_bd
  have hv2 := c.next.v_bd
  have hlt := (List.getElem?_eq_some_iff.1 hm).1
  refine acallsC hm (cur_lo (c.pick n).2 hr) Tryd.func25 rfl rfl (fun S hS hw => ?_)
  refine aw_seq ?_
  refine aw_region ?_
  refine rr_pure (rp rfl) rfl rfl rfl ?_
  refine rr_nil rfl ?_
  refine then_n ?_
  refine aw_seq ?_
  refine aw_seq ?_
  refine aw_region ?_
  refine rr_pure (rp rfl) rfl rfl rfl ?_
  refine rr_pure (rp rfl) rfl rfl rfl ?_
  refine rr_nil rfl ?_
  refine then_n ?_
  refine aw_cond rfl (fun b1 => ?_) (fun b1 => ?_)
  · have b1p := b1; try simp only [s_inj, bs_toList, nil_toList, bs_inj, u8_eq, UInt8.toNat_inj, decide_eq_true_eq, decide_eq_false_iff_not, Bool.not_eq_true', Bool.not_eq_false', bne_iff_ne, ne_eq, bne_eq_false_iff_eq, beq_iff_eq, beq_eq_false_iff_ne, Int.natCast_inj] at b1p
    refine aw_seq ?_
    refine aw_region ?_
    refine rr_pure (rp rfl) rfl rfl rfl ?_
    refine rr_nil rfl ?_
    refine then_n ?_
    refine aw_ret ?_
    refine then_r ?_
    rw [pick_1 (by omega)]
    exact fin_iM (J := []) (by rw [set_same hm]) (resA_tmp rfl resA_nil) rfl
  · have b1p := b1; try simp only [s_inj, bs_toList, nil_toList, bs_inj, u8_eq, UInt8.toNat_inj, decide_eq_true_eq, decide_eq_false_iff_not, Bool.not_eq_true', Bool.not_eq_false', bne_iff_ne, ne_eq, bne_eq_false_iff_eq, beq_iff_eq, beq_eq_false_iff_ne, Int.natCast_inj] at b1p
    refine aw_skip ?_
    refine then_n ?_
    refine aw_seq ?_
    refine aw_region ?_
    refine rr_pure (rp rfl) rfl rfl rfl ?_
    refine rr_eff (r_callF rfl rfl rfl (gset hlt (c37 (at_g hm) hr.app (by omega) hl))) rfl rfl rfl (by simp) ?_
    generalize hG1 : List.set G m _ = G1
    have l1 : G1.length = G.length := by rw [← hG1, List.length_set]
    have m1 : G1[m]? = some (curB v c.next) := by rw [← hG1]; exact set_at hm
    have hr1 : RdC (cx K) G1 m 1 eC v (c.next).a := by rw [← hG1]; exact hr.set _
    try rw [← l1]
    refine rr_pure (rp rfl) rfl rfl rfl ?_
    refine rr_nil rfl ?_
    refine then_n ?_
    refine aw_seq ?_
    refine aw_seq ?_
    refine aw_region ?_
    refine rr_pure (rp rfl) rfl rfl rfl ?_
    refine rr_pure (rp rfl) rfl rfl rfl ?_
    refine rr_nil rfl ?_
    refine then_n ?_
    refine aw_cond rfl (fun b2 => ?_) (fun b2 => ?_)
    · have b2p := b2; try simp only [s_inj, bs_toList, nil_toList, bs_inj, u8_eq, UInt8.toNat_inj, decide_eq_true_eq, decide_eq_false_iff_not, Bool.not_eq_true', Bool.not_eq_false', bne_iff_ne, ne_eq, bne_eq_false_iff_eq, beq_iff_eq, beq_eq_false_iff_ne, Int.natCast_inj] at b2p
      refine aw_region ?_
      refine rr_pure (rp rfl) rfl rfl rfl ?_
      refine rr_pure (r_muln rfl rfl rfl ⟨by omega, by omega⟩) rfl rfl rfl ?_
      refine rr_pure (rp rfl) rfl rfl rfl ?_
      refine rr_eff (r_callF rfl rfl rfl (gset (l1 ▸ hlt) (c37 (c := c.next) (at_g m1) hr1.app (by simp only [Cur.next]; omega) hl))) rfl rfl rfl (by simp) ?_
      generalize hG2 : List.set G1 m _ = G2
      have l2 : G2.length = G1.length := by rw [← hG2, List.length_set]
      have m2 : G2[m]? = some (curB v c.next.next) := by rw [← hG2]; exact set_at m1
      have hr2 : RdC (cx K) G2 m 1 eC v (c.next.next).a := by rw [← hG2]; exact hr1.set _
      try rw [← l2]
      refine rr_pure (r_addn rfl rfl rfl ⟨by omega, by omega⟩) rfl rfl rfl ?_
      refine rr_pure (rp rfl) rfl rfl rfl ?_
      refine rr_nil rfl ?_
      refine then_n ?_
      refine aw_seq ?_
      refine aw_region ?_
      refine rr_pure (rp rfl) rfl rfl rfl ?_
      refine rr_pure (rp rfl) rfl rfl rfl ?_
      refine rr_pure (r_remI rfl rfl rfl (by omega)) rfl rfl rfl ?_
      refine rr_pure (rp rfl) rfl rfl rfl ?_
      refine rr_nil rfl ?_
      refine then_n ?_
      refine aw_ret ?_
      rw [pick_2 (by omega) (by omega)]
      exact fin_iM (J := []) (by rw [← hG2, ← hG1, List.set_set]) (resA_tmp rfl resA_nil) rfl
    · have b2p := b2; try simp only [s_inj, bs_toList, nil_toList, bs_inj, u8_eq, UInt8.toNat_inj, decide_eq_true_eq, decide_eq_false_iff_not, Bool.not_eq_true', Bool.not_eq_false', bne_iff_ne, ne_eq, bne_eq_false_iff_eq, beq_iff_eq, beq_eq_false_iff_ne, Int.natCast_inj] at b2p
      refine aw_skip ?_
      refine then_n ?_
      refine aw_seq ?_
      refine aw_region ?_
      refine rr_pure (rp rfl) rfl rfl rfl ?_
      refine rr_pure (rp rfl) rfl rfl rfl ?_
      refine rr_pure (r_remI rfl rfl rfl (by omega)) rfl rfl rfl ?_
      refine rr_pure (rp rfl) rfl rfl rfl ?_
      refine rr_nil rfl ?_
      refine then_n ?_
      refine aw_ret ?_
      rw [pick_3 (by omega) (by omega)]
      exact fin_iM (J := []) (by rw [← hG1]) (resA_tmp rfl resA_nil) rfl
theorem c26 {K : List (Nat × Go.Obj)} [hK : Nonempty (KOk K)] {G : Heap} {m : Nat} {v : AC} {c : Cur} {n : Int} (hm : G[m]? = some (curB v c)) (hr : RdC (cx K) G m 1 eC v c.a) (hi : c.i ≤ 2 ^ 60) (hl : c.a.length ≤ 2 ^ 50) : ACalls (cx K) 26 [.c (.pt (.l m) 0), aI n] G (Vb ((c.pick n).1 == 0)) (G.set m (curB v (c.pick n).2)) := by
  have hlt := (List.getElem?_eq_some_iff.1 hm).1
  refine acallsC hm (cur_lo (c.pick n).2 hr) Tryd.func26 rfl rfl (fun S hS hw => ?_)
  refine aw_seq ?_
  refine aw_region ?_
  refine rr_pure (rp rfl) rfl rfl rfl ?_
  refine rr_nil rfl ?_
  refine then_n ?_
  refine aw_seq ?_
  refine aw_region ?_
  refine rr_pure (rp rfl) rfl rfl rfl ?_
  refine rr_pure (rp rfl) rfl rfl rfl ?_
  refine rr_eff (r_callF rfl rfl rfl (gset hlt (c25 (at_g hm) hr.app (by omega) hl))) rfl rfl rfl (by simp) ?_
  refine rr_pure (rp rfl) rfl rfl rfl ?_
  refine rr_pure (rp rfl) rfl rfl rfl ?_
  refine rr_nil rfl ?_
  refine then_n ?_
  refine aw_ret ?_
  exact fin_M (J := []) rfl (resA_tmp rfl resA_nil) rfl rfl
/-- One of these. -/
def ofF (xs : List (List UInt8)) (c : Cur) : List UInt8 := xs.getD (c.pick xs.length).1.toNat []
theorem c66 {K : List (Nat × Go.Obj)} [hK : Nonempty (KOk K)] {G : Heap} {m : Nat} {v w : AC} {c : Cur} {xs : List (List UInt8)} (hm : G[m]? = some (curB v c)) (hr : RdC (cx K) G m 1 eC v c.a) (hi : c.i ≤ 2 ^ 60) (hl : c.a.length ≤ 2 ^ 50) (hwx : RdC (cx K) G m 1 eT w xs) (hn : 1 ≤ xs.length) (hn2 : xs.length ≤ 2 ^ 40) : ACalls (cx K) 66 [.c (.pt (.l m) 0), .c w] G (Vs (bs (ofF xs c))) (G.set m (curB v (c.pick xs.length).2)) := by
  have hlt := (List.getElem?_eq_some_iff.1 hm).1
  have hb := c.pick_bd (n := xs.length) (by omega)
  obtain ⟨x, hx⟩ := at_lt xs (i := (c.pick xs.length).1.toNat) (by omega)
  have hx' : ofF xs c = x := by unfold ofF; rw [List.getD_eq_getElem?_getD, hx]; rfl
  refine acallsC hm (cur_lo (c.pick xs.length).2 hr) Tryd.func66 rfl rfl (fun S hS hw => ?_)
  refine aw_seq ?_
  refine aw_region ?_
  refine rr_pure (rp rfl) rfl rfl rfl ?_
  refine rr_nil rfl ?_
  refine then_n ?_
  refine aw_seq ?_
  refine aw_region ?_
  refine rr_pure (rp rfl) rfl rfl rfl ?_
  refine rr_pure (rp rfl) rfl rfl rfl ?_
  refine rr_pure (rp rfl) rfl rfl rfl ?_
  first
    | refine rr_pure (rp rfl) rfl rfl rfl ?_
    | refine rr_pure (r_lenR rfl rfl rfl ⟨_, _, hwx.rd⟩) rfl rfl rfl ?_
  refine rr_eff (r_callF rfl rfl rfl (gset hlt (c25 (at_g hm) hr.app (by omega) hl))) rfl rfl rfl (by simp) ?_
  refine rr_pure (r_idxR rfl rfl rfl rfl rfl ⟨_, _, (hwx.2 (curB v (c.pick xs.length).2))⟩ (by omega) (by omega)) rfl rfl rfl ?_
  refine rr_read (r_loadA rfl rfl rfl (Rd.at (hwx.2 (curB v (c.pick xs.length).2)) hx) rfl) rfl rfl rfl ?_
  refine rr_pure (rp rfl) rfl rfl rfl ?_
  refine rr_nil rfl ?_
  refine then_n ?_
  refine aw_ret ?_
  exact fin_M (J := []) rfl (resA_tmp rfl resA_nil) (by rw [hx']; rfl) rfl
end Go.Proofs.YtfdopoijhjbamaaDoor
