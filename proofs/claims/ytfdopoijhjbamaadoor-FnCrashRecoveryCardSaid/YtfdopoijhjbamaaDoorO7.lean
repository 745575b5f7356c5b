/- A log for a crash, drawn; logs recovered. -/
import Derived.Test.YtfdopoijhjbamaaDoorO6
namespace Go.Proofs.YtfdopoijhjbamaaDoor
open Go.Aw Go.RowKit
set_option maxRecDepth 100000
set_option maxHeartbeats 2000000
set_option linter.unusedSimpArgs false
set_option linter.unusedVariables false
theorem own_at {H L : Heap} {j : Nat} {b : Option Blk} (h : L[j]? = some b) : (H ++ L)[H.length + j]? = some b := by
  rw [List.getElem?_append_right (by omega), Nat.add_sub_cancel_left]; exact h
theorem gown {X : Cx} {f : FuncId} {args : List AV} {r : AT} {H L : Heap} {j : Nat} {x : Option Blk} (h : ACalls X f args (H ++ L) r ((H ++ L).set (H.length + j) x)) : ACalls X f args (H ++ L) r (H ++ L.set j x) := by
  rw [set_own] at h; exact h
theorem anyE {K : List (Nat × Go.Obj)} [hK : Nonempty (KOk K)] {G : Heap} {m : Nat} {v : AC} {c c' : Cur} {x : Lg} (h : anyF c = (x, c')) (hm : G[m]? = some (curB v c)) (hr : RdC (cx K) G m 1 eC v c.a) (hi : c.i ≤ 2 ^ 57) (hl : c.a.length ≤ 2 ^ 50) : ACalls (cx K) 24 [.c (.pt (.l m) 0)] G (.v (aL x)) (G.set m (curB v c')) := by
  have := c24 hm hr hi hl
  rwa [h] at this
noncomputable def drawF (a : List UInt8) : Lg × Int × Bool := ((anyF ⟨a, 0, 0⟩).1, ((anyF ⟨a, 0, 0⟩).2.pick ((anyF ⟨a, 0, 0⟩).1.n.length + 3)).1 - 1, (((anyF ⟨a, 0, 0⟩).2.pick ((anyF ⟨a, 0, 0⟩).1.n.length + 3)).2.pick 2).1 == 0)
theorem draw_small (a : List UInt8) : (drawF a).1.p.length ≤ 60000 ∧ (drawF a).1.n.length ≤ 60000 := (any_i _).2.2
theorem c11 {K : List (Nat × Go.Obj)} [hK : Nonempty (KOk K)] (H : Heap) {v : AC} {a : List UInt8} (hr : Rd (cx K) H 1 eC v a) (hl : a.length ≤ 2 ^ 50) : ACalls (cx K) 11 [.c v] H (.tu [aL (drawF a).1, aI (drawF a).2.1, aB (drawF a).2.2]) H := by
  obtain ⟨x, c1, e1⟩ : ∃ x c1, anyF ⟨a, 0, 0⟩ = (x, c1) := ⟨_, _, rfl⟩
  have h1 := any_i ⟨a, 0, 0⟩
  have hz : drawF a = ((anyF ⟨a, 0, 0⟩).1, ((anyF ⟨a, 0, 0⟩).2.pick ((anyF ⟨a, 0, 0⟩).1.n.length + 3)).1 - 1, (((anyF ⟨a, 0, 0⟩).2.pick ((anyF ⟨a, 0, 0⟩).1.n.length + 3)).2.pick 2).1 == 0) := rfl
  rw [e1] at h1 hz
  dsimp only at h1 hz
  obtain ⟨i1, a1, s1, s2⟩ := h1
  obtain ⟨x2, c2, e2⟩ : ∃ x2 c2, c1.pick ((x.n.length : Int) + 3) = (x2, c2) := ⟨_, _, rfl⟩
  have i2 := c1.pick_le ((x.n.length : Int) + 3)
  have a2 := c1.pick_a ((x.n.length : Int) + 3)
  have d2 := c1.pick_bd (n := (x.n.length : Int) + 3) (by omega)
  rw [e2] at i2 a2 d2 hz
  dsimp only at i2 a2 d2 hz
  obtain ⟨x3, c3, e3⟩ : ∃ x3 c3, c2.pick 2 = (x3, c3) := ⟨_, _, rfl⟩
  rw [e3] at hz
  rw [hz]
  have ha2 : c2.a = a := a2.trans a1
  have hl1 : c1.a.length ≤ 2 ^ 50 := by rw [a1]; exact hl
  have hl2 : c2.a.length ≤ 2 ^ 50 := by rw [ha2]; exact hl
  have hr1 : Rd (cx K) H 1 eC v c1.a := by rw [a1]; exact hr
  have hr2 : Rd (cx K) H 1 eC v c2.a := by rw [ha2]; exact hr
  refine acalls0 Tryd.func11 rfl rfl (fun S hS hw => ?_)
  refine aw_seq ?_
  refine aw_region ?_
  refine rr_memL (r_allocL rfl rfl) rfl rfl rfl ?_
  refine rr_pure (rp rfl) rfl rfl rfl ?_
  refine rr_pure (rp rfl) rfl rfl rfl ?_
  refine rr_nil rfl ?_
  refine then_n ?_
  refine aw_seq ?_
  refine aw_region ?_
  refine rr_pure (rp rfl) rfl rfl rfl ?_
  refine rr_pure (rp rfl) rfl rfl rfl ?_
  refine rr_memL (r_boxL rfl rfl) rfl rfl rfl ?_
  refine rr_pure (rp rfl) rfl rfl rfl ?_
  refine rr_nil rfl ?_
  refine then_n ?_
  refine aw_seq ?_
  refine aw_region ?_
  refine rr_pure (rp rfl) rfl rfl rfl ?_
  refine rr_eff (r_callF rfl rfl rfl (gown (j := 1) (anyE (c := ⟨a, 0, 0⟩) e1 (own_at rfl) (RdC.mk hr (by simp)) (by simp) hl))) rfl rfl rfl (by simp) ?_
  refine rr_memL (r_allocL rfl rfl) rfl rfl rfl ?_
  refine rr_eff (r_storeL rfl rfl rfl rfl rfl rfl rfl (Nat.le_of_ble_eq_true rfl)) rfl rfl rfl (by simp) ?_
  refine rr_nil rfl ?_
  refine then_n ?_
  refine aw_seq ?_
  refine aw_region ?_
  refine rr_pure (rp rfl) rfl rfl rfl ?_
  refine rr_pure (rp rfl) rfl rfl rfl ?_
  first
    | refine rr_read (r_loadL rfl rfl rfl rfl rfl) rfl rfl rfl ?_
    | refine rr_read (r_loadA rfl rfl rfl (Rd.at (by assumption) (by assumption)) rfl) rfl rfl rfl ?_
  refine rr_pure (r_lenB rfl rfl rfl) rfl rfl rfl ?_
  refine rr_pure (r_addn rfl rfl rfl ⟨by omega, by omega⟩) rfl rfl rfl ?_
  refine rr_eff (r_callF rfl rfl rfl (gown (j := 1) (pickE e2 (own_at rfl) (RdC.mk hr1 (by simp)) (by omega) hl1))) rfl rfl rfl (by simp) ?_
  refine rr_pure (r_subn rfl rfl rfl ⟨by omega, by omega⟩) rfl rfl rfl ?_
  refine rr_pure (rp rfl) rfl rfl rfl ?_
  refine rr_nil rfl ?_
  refine then_n ?_
  refine aw_seq ?_
  refine aw_region_drawK (fun H2 => ld (cx K) H2 (.l (H.length + 2)) 0 3 = some (eL x)) (fun _ _ h => ld_app h) (ld_own rfl) ?_
  refine rk_kept (r := some (.v (aL x))) (fun H2 hk => r_loadK (v := aL x) rfl rfl rfl rfl H2 hk) (fun v hv => by cases hv; rfl) rfl rfl rfl ?_
  refine rk_pure (rp rfl) rfl rfl rfl ?_
  refine rk_pure (rp rfl) rfl rfl rfl ?_
  refine rk_keep (r_callF rfl rfl rfl (gown (j := 1) (oneE e3 (own_at rfl) (RdC.mk hr2 (by simp)) (by omega) hl2))) (ld_own rfl) rfl rfl rfl (by simp) ?_
  refine rk_eff (r_storeL rfl rfl rfl rfl rfl rfl rfl (Nat.le_of_ble_eq_true rfl)) rfl rfl rfl (by simp) ?_
  refine rk_pure (rp rfl) rfl rfl rfl ?_
  refine rk_pure (rp rfl) rfl rfl rfl ?_
  refine rk_nil (by kernel_rfl) ?_
  refine then_n ?_
  refine aw_ret ?_
  exact fin_r (resA_cell rfl rfl rfl rfl (resA_tmp rfl (resA_tmp rfl resA_nil))) rfl rfl rfl
theorem c10 {K : List (Nat × Go.Obj)} [hK : Nonempty (KOk K)] (H : Heap) {v : AC} {a : List UInt8} (hr : ∃ H sz, Rd (α := UInt8) (cx K) H sz eC v a) : ACalls (cx K) 10 [.c v] H (Vb (decide ((a.length : Int) > 65536))) H := by
  refine acalls0 Tryd.func10 rfl rfl (fun S hS hw => ?_)
  refine aw_seq ?_
  refine aw_region ?_
  refine rr_pure (rp rfl) rfl rfl rfl ?_
  refine rr_nil rfl ?_
  refine then_n ?_
  refine aw_seq ?_
  refine aw_region ?_
  refine rr_pure (rp rfl) rfl rfl rfl ?_
  first
    | refine rr_pure (rp rfl) rfl rfl rfl ?_
    | refine rr_pure (r_lenR rfl rfl rfl ⟨_, _, hr.choose_spec.choose_spec⟩) rfl rfl rfl ?_
  refine rr_pure (rp rfl) rfl rfl rfl ?_
  refine rr_pure (rp rfl) rfl rfl rfl ?_
  refine rr_nil rfl ?_
  refine then_n ?_
  refine aw_ret ?_
  exact fin_b rfl rfl
/-- What is recovered. -/
noncomputable def recvF (s : List UInt8) : Lg × Int × Bool := if (s.length : Int) > 30000 then (⟨[], [], 0⟩, 0, false) else (⟨s.take (logF s).2, [], (logF s).1.length⟩, (logF s).2, true)
theorem openF_le : ∀ (n k : Nat) (s : List UInt8), (openF n k s).2 ≤ s.length
  | 0, k, s => by simp [openF]
  | n + 1, k, s => by
    simp only [openF]
    split
    · rename_i hc
      have hs := congrArg List.length (cutF_yes _ _ hc)
      simp only [List.length_append, List.length_cons] at hs
      cases ha : accF k (cutF 10 s).1 with
      | none => simp
      | some e => have := openF_le n (k + 1) (cutF 10 s).2.1; dsimp only; omega
    · simp
theorem logF_le (s : List UInt8) : (logF s).2 ≤ s.length := openF_le 60 0 s
theorem c12 {K : List (Nat × Go.Obj)} [hK : Nonempty (KOk K)] (H : Heap) {s : List UInt8} (hs : s.length ≤ 2 ^ 40) : ACalls (cx K) 12 [aS (bs s)] H (.tu [aL (recvF s).1, aI (recvF s).2.1, aB (recvF s).2.2]) H := by
  have hle := logF_le s
  refine acalls0 Tryd.func12 rfl rfl (fun S hS hw => ?_)
  refine aw_seq ?_
  refine aw_region ?_
  refine rr_memL (r_allocL rfl rfl) rfl rfl rfl ?_
  refine rr_pure (rp rfl) rfl rfl rfl ?_
  refine rr_pure (rp rfl) rfl rfl rfl ?_
  refine rr_nil rfl ?_
  refine then_n ?_
  refine aw_seq ?_
  refine aw_seq ?_
  refine aw_region ?_
  refine rr_pure (rp rfl) rfl rfl rfl ?_
  refine rr_pure (r_lenB rfl rfl rfl) rfl rfl rfl ?_
  refine rr_pure (rp rfl) rfl rfl rfl ?_
  refine rr_nil rfl ?_
  refine then_n ?_
  refine aw_cond rfl (fun b1 => ?_) (fun b1 => ?_)
  · have b1p := b1; try simp only [s_inj, bs_toList, nil_toList, bs_inj, u8_eq, UInt8.toNat_inj, decide_eq_true_eq, decide_eq_false_iff_not, Bool.not_eq_true', Bool.not_eq_false', bne_iff_ne, ne_eq, bne_eq_false_iff_eq, beq_iff_eq, beq_eq_false_iff_ne, Int.natCast_inj] at b1p
    refine aw_seq ?_
    refine aw_region ?_
    refine rr_pure (rp rfl) rfl rfl rfl ?_
    refine rr_eff (r_storeL rfl rfl rfl rfl rfl rfl rfl (Nat.le_of_ble_eq_true rfl)) rfl rfl rfl (by simp) ?_
    refine rr_pure (rp rfl) rfl rfl rfl ?_
    refine rr_pure (rp rfl) rfl rfl rfl ?_
    refine rr_nil rfl ?_
    refine then_n ?_
    refine aw_ret ?_
    refine then_r ?_
    have hz : recvF s = (⟨[], [], 0⟩, 0, false) := by unfold recvF; rw [if_pos b1p]
    rw [hz]
    exact fin_r (resA_cell rfl rfl rfl rfl (resA_tmp rfl (resA_tmp rfl resA_nil))) rfl rfl rfl
  · have b1p := b1; try simp only [s_inj, bs_toList, nil_toList, bs_inj, u8_eq, UInt8.toNat_inj, decide_eq_true_eq, decide_eq_false_iff_not, Bool.not_eq_true', Bool.not_eq_false', bne_iff_ne, ne_eq, bne_eq_false_iff_eq, beq_iff_eq, beq_eq_false_iff_ne, Int.natCast_inj] at b1p
    refine aw_skip ?_
    refine then_n ?_
    refine aw_seq ?_
    refine aw_region ?_
    refine rr_pure (rp rfl) rfl rfl rfl ?_
    refine rr_memL (r_callF rfl rfl rfl (c27 List.length_append (by omega))) rfl rfl rfl  ?_
    refine rr_pure (rp rfl) rfl rfl rfl ?_
    refine rr_pure (rp rfl) rfl rfl rfl ?_
    refine rr_pure (rp rfl) rfl rfl rfl ?_
    refine rr_pure (rp rfl) rfl rfl rfl ?_
    refine rr_pure (rp rfl) rfl rfl rfl ?_
    refine rr_nil rfl ?_
    refine then_n ?_
    refine aw_seq ?_
    refine aw_region ?_
    refine rr_pure (rp rfl) rfl rfl rfl ?_
    refine rr_pure (rp rfl) rfl rfl rfl ?_
    refine rr_pure (r_subTo (h := (logF s).2) rfl rfl rfl rfl hle) rfl rfl rfl ?_
    refine rr_pure (rp rfl) rfl rfl rfl ?_
    refine rr_pure (r_lenG rfl rfl rfl) rfl rfl rfl ?_
    refine rr_pure (rp rfl) rfl rfl rfl ?_
    refine rr_pure (rp rfl) rfl rfl rfl ?_
    refine rr_eff (r_storeL rfl rfl rfl rfl rfl rfl rfl (Nat.le_of_ble_eq_true rfl)) rfl rfl rfl (by simp) ?_
    refine rr_pure (rp rfl) rfl rfl rfl ?_
    refine rr_pure (rp rfl) rfl rfl rfl ?_
    refine rr_nil rfl ?_
    refine then_n ?_
    refine aw_ret ?_
    have hz : recvF s = ((⟨s.take (logF s).2, [], (logF s).1.length⟩ : Lg), ((logF s).2 : Int), true) := by unfold recvF; rw [if_neg b1p]
    rw [hz]
    exact fin_r (resA_cell rfl rfl rfl rfl (resA_tmp rfl (resA_tmp rfl resA_nil))) rfl rfl rfl
/-- The records of a log. -/
noncomputable def recsF (x : Lg) : List Rc := if validLog x = true then (logF (x.p ++ x.n)).1 else []
theorem ren_svGr (n : Nat) (r : List Nat) (k : Nat) : (svG n k).ren n r = svG (n + r.getD 0 0) k := ren_svG n r 0 k
theorem recs_no {x : Lg} (h : validLog x = false) : recsF x = [] := by unfold recsF; rw [if_neg (by rw [h]; simp)]
theorem recs_yes {x : Lg} (h : validLog x = true) : recsF x = (logF (x.p ++ x.n)).1 := by unfold recsF; rw [if_pos h]
theorem c13 {K : List (Nat × Go.Obj)} [hK : Nonempty (KOk K)] {H : Heap} {b : Nat} (hb : H.length = b) {x : Lg} (hp : x.p.length ≤ 2 ^ 30) (hq : x.n.length ≤ 2 ^ 30) : ACalls (cx K) 13 [aL x] H (.tu [.c (svG b (recsF x).length), aB (validLog x)]) (H ++ [lpG (bR (recsF x)) (recsF x).length]) := by
  subst hb
  have hpn : (x.p ++ x.n).length ≤ 2 ^ 31 := by rw [List.length_append]; omega
  refine acallsN Tryd.func13 rfl rfl (fun S hS hw => ?_)
  refine aw_seq ?_
  refine aw_region ?_
  refine rr_memL (r_boxL rfl rfl) rfl rfl rfl ?_
  refine rr_pure (rp rfl) rfl rfl rfl ?_
  refine rr_pure (rp rfl) rfl rfl rfl ?_
  refine rr_nil rfl ?_
  refine then_n ?_
  refine aw_seq ?_
  refine aw_seq ?_
  refine aw_region ?_
  first
    | refine rr_read (r_loadL rfl rfl rfl rfl rfl) rfl rfl rfl ?_
    | refine rr_read (r_loadA rfl rfl rfl (Rd.at (by assumption) (by assumption)) rfl) rfl rfl rfl ?_
  refine rr_read (r_callF rfl rfl rfl (c15 _ (x := x) hp hq)) rfl rfl rfl  ?_
  refine rr_pure (rp rfl) rfl rfl rfl ?_
  refine rr_nil rfl ?_
  refine then_n ?_
  refine aw_cond rfl (fun b1 => ?_) (fun b1 => ?_)
  · have b1p := b1; try simp only [s_inj, bs_toList, nil_toList, bs_inj, u8_eq, UInt8.toNat_inj, decide_eq_true_eq, decide_eq_false_iff_not, Bool.not_eq_true', Bool.not_eq_false', bne_iff_ne, ne_eq, bne_eq_false_iff_eq, beq_iff_eq, beq_eq_false_iff_ne, Int.natCast_inj] at b1p
    refine aw_seq ?_
    refine aw_region ?_
    refine rr_pure (rp rfl) rfl rfl rfl ?_
    refine rr_pure (rp rfl) rfl rfl rfl ?_
    refine rr_nil rfl ?_
    refine then_n ?_
    refine aw_ret ?_
    refine then_r ?_
    rw [recs_no b1p, b1p]
    exact fin_mv [0] (resA_tmp rfl (resA_tmp rfl resA_nil)) mv_void rfl (lo_tu1 (lo_svG (by simp)))
  · have b1p := b1; try simp only [s_inj, bs_toList, nil_toList, bs_inj, u8_eq, UInt8.toNat_inj, decide_eq_true_eq, decide_eq_false_iff_not, Bool.not_eq_true', Bool.not_eq_false', bne_iff_ne, ne_eq, bne_eq_false_iff_eq, beq_iff_eq, beq_eq_false_iff_ne, Int.natCast_inj] at b1p
    refine aw_skip ?_
    refine then_n ?_
    refine aw_seq ?_
    refine aw_region ?_
    refine rr_pure (rp rfl) rfl rfl rfl ?_
    first
      | refine rr_read (r_loadL rfl rfl rfl rfl rfl) rfl rfl rfl ?_
      | refine rr_read (r_loadA rfl rfl rfl (Rd.at (by assumption) (by assumption)) rfl) rfl rfl rfl ?_
    refine rr_pure (rp rfl) rfl rfl rfl ?_
    first
      | refine rr_read (r_loadL rfl rfl rfl rfl rfl) rfl rfl rfl ?_
      | refine rr_read (r_loadA rfl rfl rfl (Rd.at (by assumption) (by assumption)) rfl) rfl rfl rfl ?_
    refine rr_pure (r_catB rfl rfl rfl (by omega)) rfl rfl rfl ?_
    refine rr_memL (r_callF rfl rfl rfl (c27 List.length_append hpn)) rfl rfl rfl  ?_
    refine rr_pure (rp rfl) rfl rfl rfl ?_
    refine rr_pure (rp rfl) rfl rfl rfl ?_
    refine rr_pure (rp rfl) rfl rfl rfl ?_
    refine rr_pure (rp rfl) rfl rfl rfl ?_
    refine rr_pure (rp rfl) rfl rfl rfl ?_
    refine rr_nil rfl ?_
    refine then_n ?_
    refine aw_seq ?_
    refine aw_region ?_
    refine rr_pure (rp rfl) rfl rfl rfl ?_
    refine rr_pure (rp rfl) rfl rfl rfl ?_
    refine rr_pure (rp rfl) rfl rfl rfl ?_
    refine rr_nil rfl ?_
    refine then_n ?_
    refine aw_ret ?_
    rw [recs_yes b1p, b1p]
    exact fin_mv [1] (resA_tmp rfl (resA_tmp rfl resA_nil)) (mv_G rfl (flat_plain pR _)) (by simp only [resT, AT.ren, AV.ren, List.map, ren_svGr]; rfl) (lo_tu1 (lo_svG (by simp)))
theorem c14 {K : List (Nat × Go.Obj)} [hK : Nonempty (KOk K)] {H : Heap} {b : Nat} (hb : H.length = b) {x : Lg} (hp : x.p.length ≤ 2 ^ 30) (hq : x.n.length ≤ 2 ^ 30) : ACalls (cx K) 14 [aL x] H (.tu [.c (svE b (recsF x).length), aB (validLog x)]) (H ++ [bR (recsF x)]) := by
  subst hb
  have hpn : (x.p ++ x.n).length ≤ 2 ^ 31 := by rw [List.length_append]; omega
  refine acallsN Tryd.func14 rfl rfl (fun S hS hw => ?_)
  refine aw_seq ?_
  refine aw_region ?_
  refine rr_memL (r_boxL rfl rfl) rfl rfl rfl ?_
  refine rr_pure (rp rfl) rfl rfl rfl ?_
  refine rr_pure (rp rfl) rfl rfl rfl ?_
  refine rr_nil rfl ?_
  refine then_n ?_
  refine aw_seq ?_
  refine aw_seq ?_
  refine aw_region ?_
  first
    | refine rr_read (r_loadL rfl rfl rfl rfl rfl) rfl rfl rfl ?_
    | refine rr_read (r_loadA rfl rfl rfl (Rd.at (by assumption) (by assumption)) rfl) rfl rfl rfl ?_
  refine rr_read (r_callF rfl rfl rfl (c21 _ (x := x) hp hq)) rfl rfl rfl  ?_
  refine rr_pure (rp rfl) rfl rfl rfl ?_
  refine rr_nil rfl ?_
  refine then_n ?_
  refine aw_cond rfl (fun b1 => ?_) (fun b1 => ?_)
  · have b1p := b1; try simp only [s_inj, bs_toList, nil_toList, bs_inj, u8_eq, UInt8.toNat_inj, decide_eq_true_eq, decide_eq_false_iff_not, Bool.not_eq_true', Bool.not_eq_false', bne_iff_ne, ne_eq, bne_eq_false_iff_eq, beq_iff_eq, beq_eq_false_iff_ne, Int.natCast_inj] at b1p
    refine aw_seq ?_
    refine aw_region ?_
    refine rr_memL (r_litE (α := Rc) (enc := eR) rfl rfl rfl rfl) rfl rfl rfl ?_
    refine rr_pure (rp rfl) rfl rfl rfl ?_
    refine rr_pure (rp rfl) rfl rfl rfl ?_
    refine rr_nil rfl ?_
    refine then_n ?_
    refine aw_ret ?_
    refine then_r ?_
    rw [recs_no b1p, b1p]
    exact fin_mv [1] (resA_tmp rfl (resA_tmp rfl resA_nil)) (mv_one rfl (flat_plain pR _)) (by simp only [resT, AT.ren, AV.ren, List.map, svE, AC.ren, renB_base]; rfl) (by simp [Lo, AT.ids, AV.ids, AC.ids, svE])
  · have b1p := b1; try simp only [s_inj, bs_toList, nil_toList, bs_inj, u8_eq, UInt8.toNat_inj, decide_eq_true_eq, decide_eq_false_iff_not, Bool.not_eq_true', Bool.not_eq_false', bne_iff_ne, ne_eq, bne_eq_false_iff_eq, beq_iff_eq, beq_eq_false_iff_ne, Int.natCast_inj] at b1p
    refine aw_skip ?_
    refine then_n ?_
    refine aw_seq ?_
    refine aw_region ?_
    refine rr_pure (rp rfl) rfl rfl rfl ?_
    first
      | refine rr_read (r_loadL rfl rfl rfl rfl rfl) rfl rfl rfl ?_
      | refine rr_read (r_loadA rfl rfl rfl (Rd.at (by assumption) (by assumption)) rfl) rfl rfl rfl ?_
    refine rr_pure (rp rfl) rfl rfl rfl ?_
    first
      | refine rr_read (r_loadL rfl rfl rfl rfl rfl) rfl rfl rfl ?_
      | refine rr_read (r_loadA rfl rfl rfl (Rd.at (by assumption) (by assumption)) rfl) rfl rfl rfl ?_
    refine rr_pure (r_catB rfl rfl rfl (by omega)) rfl rfl rfl ?_
    refine rr_memL (r_callF rfl rfl rfl (c28 List.length_append hpn)) rfl rfl rfl  ?_
    refine rr_pure (rp rfl) rfl rfl rfl ?_
    refine rr_pure (rp rfl) rfl rfl rfl ?_
    refine rr_pure (rp rfl) rfl rfl rfl ?_
    refine rr_pure (rp rfl) rfl rfl rfl ?_
    refine rr_pure (rp rfl) rfl rfl rfl ?_
    refine rr_nil rfl ?_
    refine then_n ?_
    refine aw_seq ?_
    refine aw_region ?_
    refine rr_pure (rp rfl) rfl rfl rfl ?_
    refine rr_pure (rp rfl) rfl rfl rfl ?_
    refine rr_pure (rp rfl) rfl rfl rfl ?_
    refine rr_nil rfl ?_
    refine then_n ?_
    refine aw_ret ?_
    rw [recs_yes b1p, b1p]
    exact fin_mv [1] (resA_tmp rfl (resA_tmp rfl resA_nil)) (mv_one rfl (flat_plain pR _)) (by simp only [resT, AT.ren, AV.ren, List.map, svE, AC.ren, renB_base]; rfl) (by simp [Lo, AT.ids, AV.ids, AC.ids, svE])
end Go.Proofs.YtfdopoijhjbamaaDoor
