/- Records and logs drawn. -/
import Derived.Test.YtfdopoijhjbamaaDoorO2
namespace Go.Proofs.YtfdopoijhjbamaaDoor
open Go.Aw Go.RowKit
set_option maxRecDepth 100000
set_option maxHeartbeats 2000000
set_option linter.unusedSimpArgs false
set_option linter.unusedVariables false
theorem ofE {K : List (Nat × Go.Obj)} [hK : Nonempty (KOk K)] {G : Heap} {m : Nat} {v w : AC} {c c' : Cur} {x : Int} {xs : List (List UInt8)} (e : c.pick (xs.length : Int) = (x, c')) (hm : G[m]? = some (curB v c)) (hr : RdC (cx K) G m 1 eC v c.a) (hi : c.i ≤ 2 ^ 60) (hl : c.a.length ≤ 2 ^ 50) (hwx : RdC (cx K) G m 1 eT w xs) (hn : 1 ≤ xs.length) (hn2 : xs.length ≤ 2 ^ 40) : ACalls (cx K) 66 [.c (.pt (.l m) 0), .c w] G (Vs (bs (ofF xs c))) (G.set m (curB v c')) := by
  have := c66 hm hr hi hl hwx hn hn2
  rwa [e] at this
theorem of_mem {xs : List (List UInt8)} (c : Cur) (hn : 1 ≤ xs.length) : ofF xs c ∈ xs := by
  have hb := c.pick_bd (n := xs.length) (by omega)
  obtain ⟨x, hx⟩ := at_lt xs (i := (c.pick xs.length).1.toNat) (by omega)
  unfold ofF
  rw [List.getD_eq_getElem?_getD, hx]
  exact List.mem_of_getElem? hx
/-- The words of drawn records. -/
abbrev Q1 : List (List UInt8) := [[99, 111, 117, 110, 116], [115, 111, 114, 116, 32, 109, 101, 114, 103, 101], [120], [115, 101, 108, 101, 99, 116, 32, 50], [48, 32, 49]]
abbrev A1 : List (List UInt8) := [[], [51], [63], [97, 64, 98], [51, 32, 49, 32, 50]]
abbrev Q2 : List (List UInt8) := [[], [97, 64, 98], [97, 35], [10], List.replicate 3 0]
abbrev A3 : List (List UInt8) := [[35], [10], [127]]
def recF (c : Cur) : Rc × Cur :=
  if ((((c.pick 5).2.pick 5).2).pick 24).1 = 0 then (⟨ofF Q2 (((c.pick 5).2.pick 5).2.pick 24).2, ofF A1 (c.pick 5).2⟩, ((((c.pick 5).2.pick 5).2.pick 24).2.pick 5).2)
  else if ((((c.pick 5).2.pick 5).2).pick 24).1 = 1 then (⟨ofF Q1 c, ofF A3 (((c.pick 5).2.pick 5).2.pick 24).2⟩, ((((c.pick 5).2.pick 5).2.pick 24).2.pick 3).2)
  else (⟨ofF Q1 c, ofF A1 (c.pick 5).2⟩, (((c.pick 5).2.pick 5).2.pick 24).2)
theorem recF_eq (c : Cur) : recF c = (if ((((c.pick 5).2.pick 5).2).pick 24).1 = 0 then (⟨ofF Q2 (((c.pick 5).2.pick 5).2.pick 24).2, ofF A1 (c.pick 5).2⟩, ((((c.pick 5).2.pick 5).2.pick 24).2.pick 5).2) else if ((((c.pick 5).2.pick 5).2).pick 24).1 = 1 then (⟨ofF Q1 c, ofF A3 (((c.pick 5).2.pick 5).2.pick 24).2⟩, ((((c.pick 5).2.pick 5).2.pick 24).2.pick 3).2) else (⟨ofF Q1 c, ofF A1 (c.pick 5).2⟩, (((c.pick 5).2.pick 5).2.pick 24).2)) := rfl
theorem c52 {K : List (Nat × Go.Obj)} [hK : Nonempty (KOk K)] {G : Heap} {m : Nat} {v : AC} {c : Cur} (hm : G[m]? = some (curB v c)) (hr : RdC (cx K) G m 1 eC v c.a) (hi : c.i ≤ 2 ^ 59) (hl : c.a.length ≤ 2 ^ 50) : ACalls (cx K) 52 [.c (.pt (.l m) 0)] G (.v (aR (recF c).1)) (G.set m (curB v (recF c).2)) := by
  have hlt := (List.getElem?_eq_some_iff.1 hm).1
  have m0 := hm
  have hr0 := hr
  refine acallsC hm (cur_lo (recF c).2 hr) Tryd.func52 rfl rfl (fun S hS hw => ?_)
  refine aw_seq ?_
  refine aw_region ?_
  obtain ⟨x1, c1, e1⟩ : ∃ x y, c.pick (5) = (x, y) := ⟨_, _, rfl⟩
  have a1 : c1.a = c.a := by have := c.pick_a (5); rw [e1] at this; simpa [true_and] using this
  have i1 : c1.i ≤ c.i + 2 := by have := c.pick_le (5); rwa [e1] at this
  have d1 := c.pick_bd (n := 5) (by omega)
  rw [e1] at d1; dsimp only at d1
  have la1 : c1.a.length ≤ 2 ^ 50 := by rw [a1]; exact hl
  obtain ⟨x2, c2, e2⟩ : ∃ x y, c1.pick (5) = (x, y) := ⟨_, _, rfl⟩
  have a2 : c2.a = c.a := by have := c1.pick_a (5); rw [e2] at this; simpa [a1] using this
  have i2 : c2.i ≤ c1.i + 2 := by have := c1.pick_le (5); rwa [e2] at this
  have d2 := c1.pick_bd (n := 5) (by omega)
  rw [e2] at d2; dsimp only at d2
  have la2 : c2.a.length ≤ 2 ^ 50 := by rw [a2]; exact hl
  obtain ⟨x3, c3, e3⟩ : ∃ x y, c2.pick (24) = (x, y) := ⟨_, _, rfl⟩
  have a3 : c3.a = c.a := by have := c2.pick_a (24); rw [e3] at this; simpa [a1, a2] using this
  have i3 : c3.i ≤ c2.i + 2 := by have := c2.pick_le (24); rwa [e3] at this
  have d3 := c2.pick_bd (n := 24) (by omega)
  rw [e3] at d3; dsimp only at d3
  have la3 : c3.a.length ≤ 2 ^ 50 := by rw [a3]; exact hl
  refine rr_memL (r_allocL rfl rfl) rfl rfl rfl ?_
  refine rr_nil rfl ?_
  refine then_n ?_
  refine aw_seq ?_
  refine aw_region ?_
  refine rr_pure (rp rfl) rfl rfl rfl ?_
  refine rr_memL (r_litL rfl rfl rfl rfl rfl rfl rfl) rfl rfl rfl ?_
  refine rr_eff (r_callF rfl rfl rfl (gset hlt (ofE (xs := Q1) e1 (at_g m0) hr0.app (by omega) hl (RdC.own (j := 1) hlt lT rfl rfl) (by decide) (by decide)))) rfl rfl rfl (by simp) ?_
  generalize hG1 : List.set G m _ = G1
  have l1 : G1.length = G.length := by rw [← hG1, List.length_set]
  have m1 : G1[m]? = some (curB v c1) := by rw [← hG1]; exact set_at m0
  have hr1 : RdC (cx K) G1 m 1 eC v c1.a := by rw [← hG1, a1]; exact hr.set _
  try rw [← l1]
  refine rr_pure (rp rfl) rfl rfl rfl ?_
  refine rr_memL (r_litL rfl rfl rfl rfl rfl rfl rfl) rfl rfl rfl ?_
  refine rr_eff (r_callF rfl rfl rfl (gset (by rw [l1]; exact hlt) (ofE (xs := A1) e2 (at_g m1) hr1.app (by omega) la1 (RdC.own (j := 2) (by rw [l1]; exact hlt) lT rfl rfl) (by decide) (by decide)))) rfl rfl rfl (by simp) ?_
  generalize hG2 : List.set G1 m _ = G2
  have l2 : G2.length = G1.length := by rw [← hG2, List.length_set]
  have m2 : G2[m]? = some (curB v c2) := by rw [← hG2]; exact set_at m1
  have hr2 : RdC (cx K) G2 m 1 eC v c2.a := by have := hr1.set (curB v c2); rw [hG2, a1] at this; rw [a2]; exact this
  try rw [← l2]
  refine rr_pure (rp rfl) rfl rfl rfl ?_
  refine rr_memL (r_allocL rfl rfl) rfl rfl rfl ?_
  refine rr_eff (r_storeL rfl rfl rfl rfl rfl rfl rfl (Nat.le_of_ble_eq_true rfl)) rfl rfl rfl (by simp) ?_
  refine rr_nil rfl ?_
  refine then_n ?_
  refine aw_seq ?_
  refine aw_seq ?_
  refine aw_region ?_
  refine rr_pure (rp rfl) rfl rfl rfl ?_
  refine rr_eff (r_callF rfl rfl rfl (gset (by rw [l2, l1]; exact hlt) (pickE e3 (at_g m2) hr2.app (by omega) la2))) rfl rfl rfl (by simp) ?_
  generalize hG3 : List.set G2 m _ = G3
  have l3 : G3.length = G2.length := by rw [← hG3, List.length_set]
  have m3 : G3[m]? = some (curB v c3) := by rw [← hG3]; exact set_at m2
  have hr3 : RdC (cx K) G3 m 1 eC v c3.a := by have := hr2.set (curB v c3); rw [hG3, a2] at this; rw [a3]; exact this
  try rw [← l3]
  refine rr_nil rfl ?_
  refine then_n ?_
  refine aw_block ?_
  refine aw_seq ?_
  refine aw_region ?_
  refine rr_pure (rp rfl) rfl rfl rfl ?_
  refine rr_pure (rp rfl) rfl rfl rfl ?_
  refine rr_nil rfl ?_
  refine then_n ?_
  refine aw_cond rfl (fun b1 => ?_) (fun b1 => ?_)
  · have b1p := b1; try simp only [s_inj, bs_toList, nil_toList, bs_inj, u8_eq, UInt8.toNat_inj, decide_eq_true_eq, decide_eq_false_iff_not, Bool.not_eq_true', Bool.not_eq_false', bne_iff_ne, ne_eq, bne_eq_false_iff_eq, beq_iff_eq, beq_eq_false_iff_ne, Int.natCast_inj] at b1p
    refine aw_region ?_
    obtain ⟨x4, c4, e4⟩ : ∃ x y, c3.pick (5) = (x, y) := ⟨_, _, rfl⟩
    have a4 : c4.a = c.a := by have := c3.pick_a (5); rw [e4] at this; simpa [a1, a2, a3] using this
    have i4 : c4.i ≤ c3.i + 2 := by have := c3.pick_le (5); rwa [e4] at this
    have d4 := c3.pick_bd (n := 5) (by omega)
    rw [e4] at d4; dsimp only at d4
    have la4 : c4.a.length ≤ 2 ^ 50 := by rw [a4]; exact hl
    refine rr_pure (rp rfl) rfl rfl rfl ?_
    refine rr_memL (r_makeR (enc := eC) (z := (0 : UInt8)) (n := 3) rfl rfl rfl rfl (by dsimp only; omega) (by omega) rfl rfl rfl) rfl rfl rfl ?_
    refine rr_read (r_ofBytes rfl rfl rfl rfl rfl (Rd.own (j := 4) lC rfl rfl)) rfl rfl rfl ?_
    refine rr_memL (r_litL rfl rfl rfl rfl rfl rfl rfl) rfl rfl rfl ?_
    refine rr_eff (r_callF rfl rfl rfl (gset (by rw [l3, l2, l1]; exact hlt) (ofE (xs := Q2) e4 (at_g m3) hr3.app (by omega) la3 (RdC.own (j := 5) (by rw [l3, l2, l1]; exact hlt) lT rfl rfl) (by decide) (by decide)))) rfl rfl rfl (by simp) ?_
    generalize hG4 : List.set G3 m _ = G4
    have l4 : G4.length = G3.length := by rw [← hG4, List.length_set]
    have m4 : G4[m]? = some (curB v c4) := by rw [← hG4]; exact set_at m3
    have hr4 : RdC (cx K) G4 m 1 eC v c4.a := by have := hr3.set (curB v c4); rw [hG4, a3] at this; rw [a4]; exact this
    try rw [← l4]
    refine rr_pure (rp rfl) rfl rfl rfl ?_
    refine rr_eff (r_storeL rfl rfl rfl rfl rfl rfl rfl (Nat.le_of_ble_eq_true rfl)) rfl rfl rfl (by simp) ?_
    refine rr_nil rfl ?_
    refine inb_n ?_
    refine then_n ?_
    refine aw_seq ?_
    refine aw_region ?_
    first
      | refine rr_read (r_loadL rfl rfl rfl rfl rfl) rfl rfl rfl ?_
      | refine rr_read (r_loadA rfl rfl rfl (Rd.at (by assumption) (by assumption)) rfl) rfl rfl rfl ?_
      | refine rr_read (r_loadG rfl rfl rfl (by assumption) rfl rfl) rfl rfl rfl ?_
    refine rr_eff (r_storeL rfl rfl rfl rfl rfl rfl rfl (Nat.le_of_ble_eq_true rfl)) rfl rfl rfl (by simp) ?_
    refine rr_nil rfl ?_
    refine then_n ?_
    refine aw_ret ?_
    have hz := recF_eq c
    rw [e1] at hz; dsimp only at hz; rw [e2] at hz; dsimp only at hz; rw [e3] at hz; dsimp only at hz
    rw [show recF c = _ from hz]
    rw [if_pos b1p, e4]
    exact fin_M (by rw [← hG4, ← hG3, ← hG2, ← hG1, List.set_set, List.set_set, List.set_set]) (resA_cell rfl rfl rfl rfl resA_nil) rfl rfl
  · have b1p := b1; try simp only [s_inj, bs_toList, nil_toList, bs_inj, u8_eq, UInt8.toNat_inj, decide_eq_true_eq, decide_eq_false_iff_not, Bool.not_eq_true', Bool.not_eq_false', bne_iff_ne, ne_eq, bne_eq_false_iff_eq, beq_iff_eq, beq_eq_false_iff_ne, Int.natCast_inj] at b1p
    refine aw_seq ?_
    refine aw_region ?_
    refine rr_pure (rp rfl) rfl rfl rfl ?_
    refine rr_pure (rp rfl) rfl rfl rfl ?_
    refine rr_nil rfl ?_
    refine then_n ?_
    refine aw_cond rfl (fun b2 => ?_) (fun b2 => ?_)
    · have b2p := b2; try simp only [s_inj, bs_toList, nil_toList, bs_inj, u8_eq, UInt8.toNat_inj, decide_eq_true_eq, decide_eq_false_iff_not, Bool.not_eq_true', Bool.not_eq_false', bne_iff_ne, ne_eq, bne_eq_false_iff_eq, beq_iff_eq, beq_eq_false_iff_ne, Int.natCast_inj] at b2p
      refine aw_region ?_
      obtain ⟨x4, c4, e4⟩ : ∃ x y, c3.pick (3) = (x, y) := ⟨_, _, rfl⟩
      have a4 : c4.a = c.a := by have := c3.pick_a (3); rw [e4] at this; simpa [a1, a2, a3] using this
      have i4 : c4.i ≤ c3.i + 2 := by have := c3.pick_le (3); rwa [e4] at this
      have d4 := c3.pick_bd (n := 3) (by omega)
      rw [e4] at d4; dsimp only at d4
      have la4 : c4.a.length ≤ 2 ^ 50 := by rw [a4]; exact hl
      refine rr_pure (rp rfl) rfl rfl rfl ?_
      refine rr_memL (r_litL rfl rfl rfl rfl rfl rfl rfl) rfl rfl rfl ?_
      refine rr_eff (r_callF rfl rfl rfl (gset (by rw [l3, l2, l1]; exact hlt) (ofE (xs := A3) e4 (at_g m3) hr3.app (by omega) la3 (RdC.own (j := 4) (by rw [l3, l2, l1]; exact hlt) lT rfl rfl) (by decide) (by decide)))) rfl rfl rfl (by simp) ?_
      generalize hG4 : List.set G3 m _ = G4
      have l4 : G4.length = G3.length := by rw [← hG4, List.length_set]
      have m4 : G4[m]? = some (curB v c4) := by rw [← hG4]; exact set_at m3
      have hr4 : RdC (cx K) G4 m 1 eC v c4.a := by have := hr3.set (curB v c4); rw [hG4, a3] at this; rw [a4]; exact this
      try rw [← l4]
      refine rr_pure (rp rfl) rfl rfl rfl ?_
      refine rr_eff (r_storeL rfl rfl rfl rfl rfl rfl rfl (Nat.le_of_ble_eq_true rfl)) rfl rfl rfl (by simp) ?_
      refine rr_nil rfl ?_
      refine inb_n ?_
      refine then_n ?_
      refine aw_seq ?_
      refine aw_region ?_
      first
        | refine rr_read (r_loadL rfl rfl rfl rfl rfl) rfl rfl rfl ?_
        | refine rr_read (r_loadA rfl rfl rfl (Rd.at (by assumption) (by assumption)) rfl) rfl rfl rfl ?_
        | refine rr_read (r_loadG rfl rfl rfl (by assumption) rfl rfl) rfl rfl rfl ?_
      refine rr_eff (r_storeL rfl rfl rfl rfl rfl rfl rfl (Nat.le_of_ble_eq_true rfl)) rfl rfl rfl (by simp) ?_
      refine rr_nil rfl ?_
      refine then_n ?_
      refine aw_ret ?_
      have hz := recF_eq c
      rw [e1] at hz; dsimp only at hz; rw [e2] at hz; dsimp only at hz; rw [e3] at hz; dsimp only at hz
      rw [show recF c = _ from hz]
      rw [if_neg b1p, if_pos b2p, e4]
      exact fin_M (by rw [← hG4, ← hG3, ← hG2, ← hG1, List.set_set, List.set_set, List.set_set]) (resA_cell rfl rfl rfl rfl resA_nil) rfl rfl
    · have b2p := b2; try simp only [s_inj, bs_toList, nil_toList, bs_inj, u8_eq, UInt8.toNat_inj, decide_eq_true_eq, decide_eq_false_iff_not, Bool.not_eq_true', Bool.not_eq_false', bne_iff_ne, ne_eq, bne_eq_false_iff_eq, beq_iff_eq, beq_eq_false_iff_ne, Int.natCast_inj] at b2p
      refine aw_skip ?_
      refine inb_n ?_
      refine then_n ?_
      refine aw_seq ?_
      refine aw_region ?_
      first
        | refine rr_read (r_loadL rfl rfl rfl rfl rfl) rfl rfl rfl ?_
        | refine rr_read (r_loadA rfl rfl rfl (Rd.at (by assumption) (by assumption)) rfl) rfl rfl rfl ?_
        | refine rr_read (r_loadG rfl rfl rfl (by assumption) rfl rfl) rfl rfl rfl ?_
      refine rr_eff (r_storeL rfl rfl rfl rfl rfl rfl rfl (Nat.le_of_ble_eq_true rfl)) rfl rfl rfl (by simp) ?_
      refine rr_nil rfl ?_
      refine then_n ?_
      refine aw_ret ?_
      have hz := recF_eq c
      rw [e1] at hz; dsimp only at hz; rw [e2] at hz; dsimp only at hz; rw [e3] at hz; dsimp only at hz
      rw [show recF c = _ from hz]
      rw [if_neg b1p, if_neg b2p]
      exact fin_M (by rw [← hG3, ← hG2, ← hG1, List.set_set, List.set_set]) (resA_cell rfl rfl rfl rfl resA_nil) rfl rfl
end Go.Proofs.YtfdopoijhjbamaaDoor
