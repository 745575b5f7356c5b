/- Any log; a log for a crash. -/
import Derived.Test.YtfdopoijhjbamaaDoorO5
namespace Go.Proofs.YtfdopoijhjbamaaDoor
open Go.Aw Go.RowKit
set_option maxRecDepth 100000
set_option maxHeartbeats 2000000
set_option linter.unusedSimpArgs false
set_option linter.unusedVariables false
abbrev AL : List UInt8 := [35, 64, 10, 48, 49]
noncomputable def anyF (c : Cur) : Lg × Cur :=
  if ((logD c).2.pick 24).1 = 0 then (⟨(logD c).1.p, (logD c).1.n, (logD c).1.d + 1⟩, ((logD c).2.pick 24).2)
  else if ((logD c).2.pick 24).1 = 1 then (⟨(logD c).1.p, (spoiltF (logD c).1.n AL ((logD c).2.pick 24).2).1, (logD c).1.d⟩, (spoiltF (logD c).1.n AL ((logD c).2.pick 24).2).2)
  else if ((logD c).2.pick 24).1 = 2 then (⟨(logD c).1.p ++ (logD c).1.n, (logD c).1.n, (logD c).1.d⟩, ((logD c).2.pick 24).2)
  else ((logD c).1, ((logD c).2.pick 24).2)
theorem anyF_eq (c : Cur) : anyF c = (if ((logD c).2.pick 24).1 = 0 then (⟨(logD c).1.p, (logD c).1.n, (logD c).1.d + 1⟩, ((logD c).2.pick 24).2)
  else if ((logD c).2.pick 24).1 = 1 then (⟨(logD c).1.p, (spoiltF (logD c).1.n AL ((logD c).2.pick 24).2).1, (logD c).1.d⟩, (spoiltF (logD c).1.n AL ((logD c).2.pick 24).2).2)
  else if ((logD c).2.pick 24).1 = 2 then (⟨(logD c).1.p ++ (logD c).1.n, (logD c).1.n, (logD c).1.d⟩, ((logD c).2.pick 24).2)
  else ((logD c).1, ((logD c).2.pick 24).2)) := rfl
theorem any_i (c : Cur) : (anyF c).2.i ≤ c.i + 120 ∧ (anyF c).2.a = c.a ∧ (anyF c).1.p.length ≤ 60000 ∧ (anyF c).1.n.length ≤ 60000 := by
  have h1 := logD_i c
  have h2 := (logD c).2.pick_le 24
  have h3 := spoilt_i (logD c).1.n AL ((logD c).2.pick 24).2
  have h4 := spoilt_a (logD c).1.n AL ((logD c).2.pick 24).2
  have h5 := spoilt_len (logD c).1.n AL ((logD c).2.pick 24).2
  have h6 := logD_small c
  have h7 := (logD c).2.pick_a 24
  have h8 := logD_a c
  unfold Small at h6
  rw [anyF_eq]
  split
  · exact ⟨by dsimp only; omega, h7.trans h8, by dsimp only; omega, by dsimp only; omega⟩
  · split
    · exact ⟨by dsimp only; omega, h4.trans (h7.trans h8), by dsimp only; omega, by dsimp only; omega⟩
    · split
      · exact ⟨by dsimp only; omega, h7.trans h8, by dsimp only; simp; omega, by dsimp only; omega⟩
      · exact ⟨by dsimp only; omega, h7.trans h8, by dsimp only; omega, by dsimp only; omega⟩
theorem logE {K : List (Nat × Go.Obj)} [hK : Nonempty (KOk K)] {G : Heap} {m : Nat} {v : AC} {c c' : Cur} {x : Lg} (h : logD c = (x, c')) (hm : G[m]? = some (curB v c)) (hr : RdC (cx K) G m 1 eC v c.a) (hi : c.i ≤ 2 ^ 58) (hl : c.a.length ≤ 2 ^ 50) : ACalls (cx K) 35 [.c (.pt (.l m) 0)] G (.v (aL x)) (G.set m (curB v c')) := by
  have := c35 hm hr hi hl
  rwa [h] at this
theorem spoiltE {K : List (Nat × Go.Obj)} [hK : Nonempty (KOk K)] {G : Heap} {m : Nat} {v : AC} {c c' : Cur} {s al r : List UInt8} (h : spoiltF s al c = (r, c')) (hm : G[m]? = some (curB v c)) (hr : RdC (cx K) G m 1 eC v c.a) (hi : c.i ≤ 2 ^ 59) (hl : c.a.length ≤ 2 ^ 50) (hs : s.length ≤ 2 ^ 40) (ha : 1 ≤ al.length) (ha2 : al.length ≤ 2 ^ 40) : ACalls (cx K) 36 [.c (.pt (.l m) 0), aS (bs s), aS (bs al)] G (Vs (bs r)) (G.set m (curB v c')) := by
  have := c36 hm hr hi hl hs ha ha2
  rwa [h] at this
theorem c24 {K : List (Nat × Go.Obj)} [hK : Nonempty (KOk K)] {G : Heap} {m : Nat} {v : AC} {c : Cur} (hm : G[m]? = some (curB v c)) (hr : RdC (cx K) G m 1 eC v c.a) (hi : c.i ≤ 2 ^ 57) (hl : c.a.length ≤ 2 ^ 50) : ACalls (cx K) 24 [.c (.pt (.l m) 0)] G (.v (aL (anyF c).1)) (G.set m (curB v (anyF c).2)) := by
  have hlt := (List.getElem?_eq_some_iff.1 hm).1
  have m0 := hm
  have hr0 := hr
  refine acallsC hm (cur_lo (anyF c).2 hr) Tryd.func24 rfl rfl (fun S hS hw => ?_)
  refine aw_seq ?_
  refine aw_region ?_
  obtain ⟨x, c1, e1⟩ : ∃ x c1, logD c = (x, c1) := ⟨_, _, rfl⟩
  have i1 := logD_i c
  have a1 := logD_a c
  have hsm := logD_small c
  rw [e1] at i1 a1 hsm
  dsimp only at i1 a1 hsm
  have la1 : c1.a.length ≤ 2 ^ 50 := by rw [a1]; exact hl
  obtain ⟨s1, s2, s3, s4⟩ := hsm
  have hz := anyF_eq c
  rw [e1] at hz
  dsimp only at hz
  obtain ⟨x2, c2, e2⟩ : ∃ x y, c1.pick (24) = (x, y) := ⟨_, _, rfl⟩
  have a2 : c2.a = c.a := by have := c1.pick_a (24); rw [e2] at this; simpa [a1] using this
  have i2 : c2.i ≤ c1.i + 2 := by have := c1.pick_le (24); rwa [e2] at this
  have d2 := c1.pick_bd (n := 24) (by omega)
  rw [e2] at d2; dsimp only at d2
  have la2 : c2.a.length ≤ 2 ^ 50 := by rw [a2]; exact hl
  rw [e2] at hz
  dsimp only at hz
  refine rr_memL (r_allocL rfl rfl) rfl rfl rfl ?_
  refine rr_nil rfl ?_
  refine then_n ?_
  refine aw_seq ?_
  refine aw_region ?_
  refine rr_pure (rp rfl) rfl rfl rfl ?_
  refine rr_eff (r_callF rfl rfl rfl (gset hlt (logE e1 (at_g m0) hr0.app (by omega) hl))) rfl rfl rfl (by simp) ?_
  generalize hG1 : List.set G m _ = G1
  have l1 : G1.length = G.length := by rw [← hG1, List.length_set]
  have m1 : G1[m]? = some (curB v c1) := by rw [← hG1]; exact set_at m0
  have hr1 : RdC (cx K) G1 m 1 eC v c1.a := by rw [← hG1, a1]; exact hr.set _
  try rw [← l1]
  refine rr_memL (r_allocL rfl rfl) rfl rfl rfl ?_
  refine rr_eff (r_storeL rfl rfl rfl rfl rfl rfl rfl (Nat.le_of_ble_eq_true rfl)) rfl rfl rfl (by simp) ?_
  refine rr_nil rfl ?_
  refine then_n ?_
  refine aw_seq ?_
  refine aw_seq ?_
  refine aw_region ?_
  refine rr_pure (rp rfl) rfl rfl rfl ?_
  refine rr_eff (r_callF rfl rfl rfl (gset (by rw [l1]; exact hlt) (pickE e2 (at_g m1) hr1.app (by omega) la1))) rfl rfl rfl (by simp) ?_
  generalize hG2 : List.set G1 m _ = G2
  have l2 : G2.length = G1.length := by rw [← hG2, List.length_set]
  have m2 : G2[m]? = some (curB v c2) := by rw [← hG2]; exact set_at m1
  have hr2 : RdC (cx K) G2 m 1 eC v c2.a := by have := hr1.set (curB v c2); rw [hG2, a1] at this; rw [a2]; exact this
  try rw [← l2]
  refine rr_nil rfl ?_
  refine then_n ?_
  refine aw_block ?_
  refine aw_seq ?_
  refine aw_region ?_
  refine rr_pure (rp rfl) rfl rfl rfl ?_
  refine rr_pure (rp rfl) rfl rfl rfl ?_
  refine rr_nil rfl ?_
  refine then_n ?_
  refine aw_cond rfl (fun b1 => ?_) (fun b1 => ?_)
  · have b1p := b1; try simp only [s_inj, bs_toList, nil_toList, bs_inj, u8_eq, UInt8.toNat_inj, decide_eq_true_eq, decide_eq_false_iff_not, Bool.not_eq_true', Bool.not_eq_false', bne_iff_ne, ne_eq, bne_eq_false_iff_eq, beq_iff_eq, beq_eq_false_iff_ne, Int.natCast_inj] at b1p
    refine aw_region ?_
    refine rr_pure (rp rfl) rfl rfl rfl ?_
    first
      | refine rr_read (r_loadL rfl rfl rfl rfl rfl) rfl rfl rfl ?_
      | refine rr_read (r_loadA rfl rfl rfl (Rd.at (by assumption) (by assumption)) rfl) rfl rfl rfl ?_
      | refine rr_read (r_loadG rfl rfl rfl (by assumption) rfl rfl) rfl rfl rfl ?_
    refine rr_pure (r_addn rfl rfl rfl ⟨by omega, by omega⟩) rfl rfl rfl ?_
    refine rr_pure (rp rfl) rfl rfl rfl ?_
    refine rr_eff (r_storeL rfl rfl rfl rfl rfl rfl rfl (Nat.le_of_ble_eq_true rfl)) rfl rfl rfl (by simp) ?_
    refine rr_nil rfl ?_
    refine inb_n ?_
    refine then_n ?_
    refine aw_seq ?_
    refine aw_region ?_
    first
      | refine rr_read (r_loadL rfl rfl rfl rfl rfl) rfl rfl rfl ?_
      | refine rr_read (r_loadA rfl rfl rfl (Rd.at (by assumption) (by assumption)) rfl) rfl rfl rfl ?_
      | refine rr_read (r_loadG rfl rfl rfl (by assumption) rfl rfl) rfl rfl rfl ?_
    refine rr_eff (r_storeL rfl rfl rfl rfl rfl rfl rfl (Nat.le_of_ble_eq_true rfl)) rfl rfl rfl (by simp) ?_
    refine rr_nil rfl ?_
    refine then_n ?_
    refine aw_ret ?_
    rw [if_pos b1p] at hz
    rw [hz]
    exact fin_M (by rw [← hG2, ← hG1, List.set_set]) (resA_cell rfl rfl rfl rfl resA_nil) rfl rfl
  · have b1p := b1; try simp only [s_inj, bs_toList, nil_toList, bs_inj, u8_eq, UInt8.toNat_inj, decide_eq_true_eq, decide_eq_false_iff_not, Bool.not_eq_true', Bool.not_eq_false', bne_iff_ne, ne_eq, bne_eq_false_iff_eq, beq_iff_eq, beq_eq_false_iff_ne, Int.natCast_inj] at b1p
    refine aw_seq ?_
    refine aw_region ?_
    refine rr_pure (rp rfl) rfl rfl rfl ?_
    refine rr_pure (rp rfl) rfl rfl rfl ?_
    refine rr_nil rfl ?_
    refine then_n ?_
    refine aw_cond rfl (fun b2 => ?_) (fun b2 => ?_)
    · have b2p := b2; try simp only [s_inj, bs_toList, nil_toList, bs_inj, u8_eq, UInt8.toNat_inj, decide_eq_true_eq, decide_eq_false_iff_not, Bool.not_eq_true', Bool.not_eq_false', bne_iff_ne, ne_eq, bne_eq_false_iff_eq, beq_iff_eq, beq_eq_false_iff_ne, Int.natCast_inj] at b2p
      refine aw_region ?_
      obtain ⟨r, c3, e3⟩ : ∃ r c3, spoiltF x.n AL c2 = (r, c3) := ⟨_, _, rfl⟩
      have a3 := spoilt_a x.n AL c2
      have i3 := spoilt_i x.n AL c2
      rw [e3, a2] at a3
      rw [e3] at i3
      dsimp only at a3 i3
      refine rr_pure (rp rfl) rfl rfl rfl ?_
      refine rr_pure (rp rfl) rfl rfl rfl ?_
      first
        | refine rr_read (r_loadL rfl rfl rfl rfl rfl) rfl rfl rfl ?_
        | refine rr_read (r_loadA rfl rfl rfl (Rd.at (by assumption) (by assumption)) rfl) rfl rfl rfl ?_
        | refine rr_read (r_loadG rfl rfl rfl (by assumption) rfl rfl) rfl rfl rfl ?_
      refine rr_eff (r_callF rfl rfl rfl (gset (by rw [l2, l1]; exact hlt) (spoiltE (al := AL) e3 (at_g m2) hr2.app (by omega) la2 (by omega) (by decide) (by decide)))) rfl rfl rfl (by simp) ?_
      generalize hG3 : List.set G2 m _ = G3
      have l3 : G3.length = G2.length := by rw [← hG3, List.length_set]
      have m3 : G3[m]? = some (curB v c3) := by rw [← hG3]; exact set_at m2
      have hr3 : RdC (cx K) G3 m 1 eC v c3.a := by have := hr2.set (curB v c3); rw [hG3, a2] at this; rw [a3]; exact this
      try rw [← l3]
      refine rr_pure (rp rfl) rfl rfl rfl ?_
      refine rr_eff (r_storeL rfl rfl rfl rfl rfl rfl rfl (Nat.le_of_ble_eq_true rfl)) rfl rfl rfl (by simp) ?_
      refine rr_nil rfl ?_
      refine inb_n ?_
      refine then_n ?_
      refine aw_seq ?_
      refine aw_region ?_
      first
        | refine rr_read (r_loadL rfl rfl rfl rfl rfl) rfl rfl rfl ?_
        | refine rr_read (r_loadA rfl rfl rfl (Rd.at (by assumption) (by assumption)) rfl) rfl rfl rfl ?_
        | refine rr_read (r_loadG rfl rfl rfl (by assumption) rfl rfl) rfl rfl rfl ?_
      refine rr_eff (r_storeL rfl rfl rfl rfl rfl rfl rfl (Nat.le_of_ble_eq_true rfl)) rfl rfl rfl (by simp) ?_
      refine rr_nil rfl ?_
      refine then_n ?_
      refine aw_ret ?_
      rw [if_neg b1p, if_pos b2p, e3] at hz
      rw [hz]
      exact fin_M (by rw [← hG3, ← hG2, ← hG1, List.set_set, List.set_set]) (resA_cell rfl rfl rfl rfl resA_nil) rfl rfl
    · have b2p := b2; try simp only [s_inj, bs_toList, nil_toList, bs_inj, u8_eq, UInt8.toNat_inj, decide_eq_true_eq, decide_eq_false_iff_not, Bool.not_eq_true', Bool.not_eq_false', bne_iff_ne, ne_eq, bne_eq_false_iff_eq, beq_iff_eq, beq_eq_false_iff_ne, Int.natCast_inj] at b2p
      refine aw_seq ?_
      refine aw_region ?_
      refine rr_pure (rp rfl) rfl rfl rfl ?_
      refine rr_pure (rp rfl) rfl rfl rfl ?_
      refine rr_nil rfl ?_
      refine then_n ?_
      refine aw_cond rfl (fun b3 => ?_) (fun b3 => ?_)
      · have b3p := b3; try simp only [s_inj, bs_toList, nil_toList, bs_inj, u8_eq, UInt8.toNat_inj, decide_eq_true_eq, decide_eq_false_iff_not, Bool.not_eq_true', Bool.not_eq_false', bne_iff_ne, ne_eq, bne_eq_false_iff_eq, beq_iff_eq, beq_eq_false_iff_ne, Int.natCast_inj] at b3p
        refine aw_region ?_
        refine rr_pure (rp rfl) rfl rfl rfl ?_
        first
          | refine rr_read (r_loadL rfl rfl rfl rfl rfl) rfl rfl rfl ?_
          | refine rr_read (r_loadA rfl rfl rfl (Rd.at (by assumption) (by assumption)) rfl) rfl rfl rfl ?_
          | refine rr_read (r_loadG rfl rfl rfl (by assumption) rfl rfl) rfl rfl rfl ?_
        refine rr_pure (rp rfl) rfl rfl rfl ?_
        first
          | refine rr_read (r_loadL rfl rfl rfl rfl rfl) rfl rfl rfl ?_
          | refine rr_read (r_loadA rfl rfl rfl (Rd.at (by assumption) (by assumption)) rfl) rfl rfl rfl ?_
          | refine rr_read (r_loadG rfl rfl rfl (by assumption) rfl rfl) rfl rfl rfl ?_
        refine rr_pure (r_catB rfl rfl rfl (by omega)) rfl rfl rfl ?_
        refine rr_pure (rp rfl) rfl rfl rfl ?_
        refine rr_eff (r_storeL rfl rfl rfl rfl rfl rfl rfl (Nat.le_of_ble_eq_true rfl)) rfl rfl rfl (by simp) ?_
        refine rr_nil rfl ?_
        refine inb_n ?_
        refine then_n ?_
        refine aw_seq ?_
        refine aw_region ?_
        first
          | refine rr_read (r_loadL rfl rfl rfl rfl rfl) rfl rfl rfl ?_
          | refine rr_read (r_loadA rfl rfl rfl (Rd.at (by assumption) (by assumption)) rfl) rfl rfl rfl ?_
          | refine rr_read (r_loadG rfl rfl rfl (by assumption) rfl rfl) rfl rfl rfl ?_
        refine rr_eff (r_storeL rfl rfl rfl rfl rfl rfl rfl (Nat.le_of_ble_eq_true rfl)) rfl rfl rfl (by simp) ?_
        refine rr_nil rfl ?_
        refine then_n ?_
        refine aw_ret ?_
        rw [if_neg b1p, if_neg b2p, if_pos b3p] at hz
        rw [hz]
        exact fin_M (by rw [← hG2, ← hG1, List.set_set]) (resA_cell rfl rfl rfl rfl resA_nil) rfl rfl
      · have b3p := b3; try simp only [s_inj, bs_toList, nil_toList, bs_inj, u8_eq, UInt8.toNat_inj, decide_eq_true_eq, decide_eq_false_iff_not, Bool.not_eq_true', Bool.not_eq_false', bne_iff_ne, ne_eq, bne_eq_false_iff_eq, beq_iff_eq, beq_eq_false_iff_ne, Int.natCast_inj] at b3p
        refine aw_skip ?_
        refine inb_n ?_
        refine then_n ?_
        refine aw_seq ?_
        refine aw_region ?_
        first
          | refine rr_read (r_loadL rfl rfl rfl rfl rfl) rfl rfl rfl ?_
          | refine rr_read (r_loadA rfl rfl rfl (Rd.at (by assumption) (by assumption)) rfl) rfl rfl rfl ?_
          | refine rr_read (r_loadG rfl rfl rfl (by assumption) rfl rfl) rfl rfl rfl ?_
        refine rr_eff (r_storeL rfl rfl rfl rfl rfl rfl rfl (Nat.le_of_ble_eq_true rfl)) rfl rfl rfl (by simp) ?_
        refine rr_nil rfl ?_
        refine then_n ?_
        refine aw_ret ?_
        rw [if_neg b1p, if_neg b2p, if_neg b3p] at hz
        rw [hz]
        exact fin_M (by rw [← hG2, ← hG1, List.set_set]) (resA_cell rfl rfl rfl rfl resA_nil) rfl rfl
end Go.Proofs.YtfdopoijhjbamaaDoor
