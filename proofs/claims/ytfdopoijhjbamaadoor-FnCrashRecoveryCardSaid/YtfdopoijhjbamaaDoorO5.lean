/- Logs drawn: the walk. -/
import Derived.Test.YtfdopoijhjbamaaDoorO4
namespace Go.Proofs.YtfdopoijhjbamaaDoor
open Go.Aw Go.RowKit
set_option maxRecDepth 100000
set_option maxHeartbeats 2000000
set_option linter.unusedSimpArgs false
set_option linter.unusedVariables false
theorem r_dec {X : Cx} {o : Oper} {E : Env} {t u : TypeId} {x y : Operand} {k : Nat} (ho : o.op = .binOp .sub t x y u) (hx : opv X E x = some (I64 ((k + 1 : Nat) : Int))) (hy : opv X E y = some (I64 1)) (hk : k ≤ 2 ^ 60) (H : Heap) : OS X o E H (some (I64 (k : Int))) H := by
  have := r_subn ho hx hy ⟨by omega, by omega⟩ H
  rwa [show ((k + 1 : Nat) : Int) - 1 = k by omega] at this
theorem c35 {K : List (Nat × Go.Obj)} [hK : Nonempty (KOk K)] {G : Heap} {m : Nat} {v : AC} {c : Cur} (hm : G[m]? = some (curB v c)) (hr : RdC (cx K) G m 1 eC v c.a) (hi : c.i ≤ 2 ^ 58) (hl : c.a.length ≤ 2 ^ 50) : ACalls (cx K) 35 [.c (.pt (.l m) 0)] G (.v (aL (logD c).1)) (G.set m (curB v (logD c).2)) := by
  have hlt := (List.getElem?_eq_some_iff.1 hm).1
  have m0 := hm
  have hr0 := hr
  refine acallsC hm (cur_lo (logD c).2 hr) Tryd.func35 rfl rfl (fun S hS hw => ?_)
  refine aw_seq ?_
  refine aw_region ?_
  obtain ⟨x1, c1, e1⟩ : ∃ x y, c.pick (7) = (x, y) := ⟨_, _, rfl⟩
  have a1 : c1.a = c.a := by have := c.pick_a (7); rw [e1] at this; simpa [true_and] using this
  have i1 : c1.i ≤ c.i + 2 := by have := c.pick_le (7); rwa [e1] at this
  have d1 := c.pick_bd (n := 7) (by omega)
  rw [e1] at d1; dsimp only at d1
  have la1 : c1.a.length ≤ 2 ^ 50 := by rw [a1]; exact hl
  refine rr_memL (r_allocL rfl rfl) rfl rfl rfl ?_
  refine rr_nil rfl ?_
  refine then_n ?_
  refine aw_seq ?_
  refine aw_region ?_
  refine rr_pure (rp rfl) rfl rfl rfl ?_
  refine rr_memL (r_allocL rfl rfl) rfl rfl rfl ?_
  refine rr_eff (r_storeL rfl rfl rfl rfl rfl rfl rfl (Nat.le_of_ble_eq_true rfl)) rfl rfl rfl (by simp) ?_
  refine rr_nil rfl ?_
  refine then_n ?_
  refine aw_seq ?_
  refine aw_seq ?_
  refine aw_region ?_
  refine rr_pure (rp rfl) rfl rfl rfl ?_
  refine rr_eff (r_callF rfl rfl rfl (gset hlt (pickE e1 (at_g m0) hr0.app (by omega) hl))) rfl rfl rfl (by simp) ?_
  generalize hG1 : List.set G m _ = G1
  have l1 : G1.length = G.length := by rw [← hG1, List.length_set]
  have m1 : G1[m]? = some (curB v c1) := by rw [← hG1]; exact set_at m0
  have hr1 : RdC (cx K) G1 m 1 eC v c1.a := by rw [← hG1, a1]; exact hr.set _
  try rw [← l1]
  refine rr_pure (rp rfl) rfl rfl rfl ?_
  refine rr_nil rfl ?_
  refine then_n ?_
  refine aw_block ?_
  obtain ⟨k0, rfl⟩ := Int.eq_ofNat_of_zero_le d1.1
  refine aw_loop (σ := Nat × Lg × Cur) (fun s => [(0, some (.v (.c (.pt (.l m) 0)))), (2, pL (G1.length + 0)), (3, pL (G1.length + 1)), (4, sI (s.1 : Int))]) (fun s => G1.set m (curB v s.2.2) ++ [some ⟨[.s (.string ⟨#[]⟩), .s (.string ⟨#[]⟩), .s (.int .i64 0)], true, 0⟩, some ⟨eL s.2.1, true, 0⟩]) (fun s => Small s.2.1 ∧ s.2.2.a = c.a ∧ s.1 ≤ 6 ∧ s.2.2.i + 10 * s.1 ≤ 2 ^ 59 ∧ logD c = logG s.1 s.2.1 s.2.2) (fun s => s.1) ((k0, ⟨[], [], 0⟩, c1)) ⟨by unfold Small; simp, a1, by dsimp only; omega, by dsimp only; omega, by unfold logD; rw [e1]; rfl⟩ (by repeat (first | exact Sub.nil _ | refine Sub.cons rfl ?_)) (by rw [set_same m1]; rfl) ?_
  intro ⟨k, x, c2⟩ hi2
  obtain ⟨hsm, hca, hk6, hci, heq⟩ := hi2
  dsimp only at hsm hca hk6 hci heq ⊢
  have hl2 : c2.a.length ≤ 2 ^ 50 := by rw [hca]; exact hl
  generalize hG2 : List.set G1 m (curB v c2) = G2
  have l2 : G2.length = G1.length := by rw [← hG2, List.length_set]
  have m2 : G2[m]? = some (curB v c2) := by rw [← hG2]; exact set_at m1
  have hr2 : RdC (cx K) G2 m 1 eC v c2.a := by rw [← hG2, hca, ← a1]; exact hr1.set _
  rw [← l2]
  refine aw_seq ?_
  refine aw_seq ?_
  refine aw_region ?_
  refine rr_pure (rp rfl) rfl rfl rfl ?_
  refine rr_pure (rp rfl) rfl rfl rfl ?_
  refine rr_nil rfl ?_
  refine then_n ?_
  refine aw_cond rfl (fun b1 => ?_) (fun b1 => ?_)
  · have b1p := b1; try simp only [s_inj, bs_toList, nil_toList, bs_inj, u8_eq, UInt8.toNat_inj, decide_eq_true_eq, decide_eq_false_iff_not, Bool.not_eq_true', Bool.not_eq_false', bne_iff_ne, ne_eq, bne_eq_false_iff_eq, beq_iff_eq, beq_eq_false_iff_ne, Int.natCast_inj] at b1p
    obtain ⟨k, rfl⟩ : ∃ q, k = q + 1 := ⟨k - 1, by omega⟩
    obtain ⟨e, c3, e3⟩ : ∃ e c3, recF c2 = (e, c3) := ⟨_, _, rfl⟩
    have ra := rec_a c2
    have ri := rec_i c2
    have rl := rec_len c2
    rw [e3] at ra ri rl
    dsimp only at ra ri rl
    have la3 : c3.a.length ≤ 2 ^ 50 := by rw [ra]; exact hl2
    obtain ⟨x4, c4, e4⟩ : ∃ x y, c3.pick 4 = (x, y) := ⟨_, _, rfl⟩
    have a4 : c4.a = c3.a := by have := c3.pick_a 4; rwa [e4] at this
    have i4 : c4.i ≤ c3.i + 2 := by have := c3.pick_le 4; rwa [e4] at this
    have hlt2 : m < G2.length := by rw [l2, l1]; exact hlt
    refine aw_skip ?_
    refine then_n ?_
    refine aw_seq ?_
    refine aw_block ?_
    refine aw_seq ?_
    refine aw_region_drawK (fun H2 => ld (cx K) H2 (.l (G2.length + 1)) 0 3 = some (eL x)) (fun _ _ h => ld_app h) (ld_own rfl) ?_
    refine rk_kept (r := some (.v (aL x))) (fun H2 hk => r_loadK (v := aL x) rfl rfl rfl rfl H2 hk) (fun v hv => by cases hv; rfl) rfl rfl rfl ?_
    refine rk_pure (rp rfl) rfl rfl rfl ?_
    refine rk_keep (r_callF rfl rfl rfl (gset hlt2 (recE e3 (at_g m2) hr2.app (by omega) hl2))) (ld_setg rfl) rfl rfl rfl (by simp) ?_
    generalize hG3 : List.set G2 m (curB v c3) = G3
    have l3 : G3.length = G2.length := by rw [← hG3, List.length_set]
    have m3 : G3[m]? = some (curB v c3) := by rw [← hG3]; exact set_at m2
    have hr3 : RdC (cx K) G3 m 1 eC v c3.a := by rw [← hG3, ra]; exact hr2.set _
    rw [← l3]
    refine rk_pure (fun _ => r_callF rfl rfl rfl (c51 _ (x := x) (e := e) (by have := hsm.1; omega) (by have := hsm.2.1; omega) (by omega))) rfl rfl rfl ?_
    refine rk_pure (rp rfl) rfl rfl rfl ?_
    refine rk_pure (rp rfl) rfl rfl rfl ?_
    refine rk_pure (rp rfl) rfl rfl rfl ?_
    refine rk_eff (r_storeL rfl rfl rfl rfl rfl rfl rfl (Nat.le_of_ble_eq_true rfl)) rfl rfl rfl (by simp) ?_
    refine rk_nil (by kernel_rfl) ?_
    refine then_n ?_
    refine aw_seq ?_
    refine aw_region ?_
    refine rr_pure (rp rfl) rfl rfl rfl ?_
    refine rr_eff (r_callF rfl rfl rfl (gset (l3 ▸ hlt2) (oneE e4 (at_g m3) hr3.app (by omega) la3))) rfl rfl rfl (by simp) ?_
    generalize hG4 : List.set G3 m (curB v c4) = G4
    have l4 : G4.length = G3.length := by rw [← hG4, List.length_set]
    have m4 : G4[m]? = some (curB v c4) := by rw [← hG4]; exact set_at m3
    have hr4 : RdC (cx K) G4 m 1 eC v c4.a := by rw [← hG4, a4]; exact hr3.set _
    rw [← l4]
    refine rr_nil rfl ?_
    refine then_n ?_
    refine aw_cond rfl (fun b2 => ?_) (fun b2 => ?_)
    · have b2p := b2; try simp only [s_inj, bs_toList, nil_toList, bs_inj, u8_eq, UInt8.toNat_inj, decide_eq_true_eq, decide_eq_false_iff_not, Bool.not_eq_true', Bool.not_eq_false', bne_iff_ne, ne_eq, bne_eq_false_iff_eq, beq_iff_eq, beq_eq_false_iff_ne, Int.natCast_inj] at b2p
      refine aw_region ?_
      first
        | refine rr_read (r_loadL rfl rfl rfl rfl rfl) rfl rfl rfl ?_
        | refine rr_read (r_loadA rfl rfl rfl (Rd.at (by assumption) (by assumption)) rfl) rfl rfl rfl ?_
        | refine rr_read (r_loadG rfl rfl rfl (by assumption) rfl rfl) rfl rfl rfl ?_
      refine rr_read (r_callF rfl rfl rfl (c53 _ (x := (apdF x e).1) (by have := (apd_small (e := e) hsm).1; omega) (by have := (apd_small (e := e) hsm).2.1; omega))) rfl rfl rfl  ?_
      refine rr_pure (rp rfl) rfl rfl rfl ?_
      refine rr_pure (rp rfl) rfl rfl rfl ?_
      refine rr_pure (rp rfl) rfl rfl rfl ?_
      refine rr_eff (r_storeL rfl rfl rfl rfl rfl rfl rfl (Nat.le_of_ble_eq_true rfl)) rfl rfl rfl (by simp) ?_
      refine rr_nil rfl ?_
      refine inb_n ?_
      refine then_n ?_
      refine aw_region ?_
      refine rr_pure (rp rfl) rfl rfl rfl ?_
      refine rr_pure (r_dec rfl rfl rfl (by omega)) rfl rfl rfl ?_
      refine rr_pure (rp rfl) rfl rfl rfl ?_
      refine rr_nil rfl ?_
      refine then_n ?_
      first
        | (have hround : roundF x c2 = (syncF (apdF x e).1).1 := by unfold roundF; rw [e3]; dsimp only; rw [e4]; exact if_pos b2p)
        | (have hround : roundF x c2 = (apdF x e).1 := by unfold roundF; rw [e3]; dsimp only; rw [e4]; exact if_neg b2p)
      exact ⟨(k, roundF x c2, c4), ⟨round_small hsm, by dsimp only; rw [a4, ra]; exact hca, by dsimp only; omega, by dsimp only; omega, by rw [heq]; simp only [logG, e3, e4]⟩, (by dsimp only; omega), (by repeat (first | exact Sub.nil _ | refine Sub.cons rfl ?_)), (by dsimp only; rw [hround, ← hG4, ← hG3, ← hG2, List.set_set, List.set_set]; rfl)⟩
    · have b2p := b2; try simp only [s_inj, bs_toList, nil_toList, bs_inj, u8_eq, UInt8.toNat_inj, decide_eq_true_eq, decide_eq_false_iff_not, Bool.not_eq_true', Bool.not_eq_false', bne_iff_ne, ne_eq, bne_eq_false_iff_eq, beq_iff_eq, beq_eq_false_iff_ne, Int.natCast_inj] at b2p
      refine aw_skip ?_
      refine inb_n ?_
      refine then_n ?_
      refine aw_region ?_
      refine rr_pure (rp rfl) rfl rfl rfl ?_
      refine rr_pure (r_dec rfl rfl rfl (by omega)) rfl rfl rfl ?_
      refine rr_pure (rp rfl) rfl rfl rfl ?_
      refine rr_nil rfl ?_
      refine then_n ?_
      first
        | (have hround : roundF x c2 = (syncF (apdF x e).1).1 := by unfold roundF; rw [e3]; dsimp only; rw [e4]; exact if_pos b2p)
        | (have hround : roundF x c2 = (apdF x e).1 := by unfold roundF; rw [e3]; dsimp only; rw [e4]; exact if_neg b2p)
      exact ⟨(k, roundF x c2, c4), ⟨round_small hsm, by dsimp only; rw [a4, ra]; exact hca, by dsimp only; omega, by dsimp only; omega, by rw [heq]; simp only [logG, e3, e4]⟩, (by dsimp only; omega), (by repeat (first | exact Sub.nil _ | refine Sub.cons rfl ?_)), (by dsimp only; rw [hround, ← hG4, ← hG3, ← hG2, List.set_set, List.set_set]; rfl)⟩
  · have b1p := b1; try simp only [s_inj, bs_toList, nil_toList, bs_inj, u8_eq, UInt8.toNat_inj, decide_eq_true_eq, decide_eq_false_iff_not, Bool.not_eq_true', Bool.not_eq_false', bne_iff_ne, ne_eq, bne_eq_false_iff_eq, beq_iff_eq, beq_eq_false_iff_ne, Int.natCast_inj] at b1p
    refine aw_exit ?_
    refine then_x ?_
    refine then_x ?_
    refine inb_e ?_
    refine then_n ?_
    refine aw_seq ?_
    refine aw_region ?_
    first
      | refine rr_read (r_loadL rfl rfl rfl rfl rfl) rfl rfl rfl ?_
      | refine rr_read (r_loadA rfl rfl rfl (Rd.at (by assumption) (by assumption)) rfl) rfl rfl rfl ?_
      | refine rr_read (r_loadG rfl rfl rfl (by assumption) rfl rfl) rfl rfl rfl ?_
    refine rr_eff (r_storeL rfl rfl rfl rfl rfl rfl rfl (Nat.le_of_ble_eq_true rfl)) rfl rfl rfl (by simp) ?_
    refine rr_nil rfl ?_
    refine then_n ?_
    refine aw_ret ?_
    obtain rfl : k = 0 := by omega
    have hz : logD c = (x, c2) := heq
    rw [hz]
    exact fin_M (by rw [← hG2, ← hG1, List.set_set]) (resA_cell rfl rfl rfl rfl resA_nil) rfl rfl
end Go.Proofs.YtfdopoijhjbamaaDoor
