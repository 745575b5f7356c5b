/- Spoilt texts; records appended; logs drawn. -/
import Derived.Test.YtfdopoijhjbamaaDoorO1
namespace Go.Proofs.YtfdopoijhjbamaaDoor
open Go.Aw Go.RowKit
set_option maxRecDepth 100000
set_option maxHeartbeats 1000000
set_option linter.unusedSimpArgs false
set_option linter.unusedVariables false
theorem pickE {K : List (Nat × Go.Obj)} [hK : Nonempty (KOk K)] {G : Heap} {m : Nat} {v : AC} {c c' : Cur} {n x : Int} (e : c.pick n = (x, c')) (hm : G[m]? = some (curB v c)) (hr : RdC (cx K) G m 1 eC v c.a) (hi : c.i ≤ 2 ^ 60) (hl : c.a.length ≤ 2 ^ 50) : ACalls (cx K) 25 [.c (.pt (.l m) 0), aI n] G (Vi .i64 x) (G.set m (curB v c')) := by
  have := c25 (n := n) hm hr hi hl
  rwa [e] at this
def spoiltF (s al : List UInt8) (c : Cur) : List UInt8 × Cur :=
  if s = [] then (al.take 1, c) else
  (if (((c.pick s.length).2.pick al.length).2.pick 3).1 = 0 then s.take (c.pick s.length).1.toNat ++ (al.drop ((c.pick s.length).2.pick al.length).1.toNat).take 1 ++ s.drop (c.pick s.length).1.toNat
   else if (((c.pick s.length).2.pick al.length).2.pick 3).1 = 1 then s.take (c.pick s.length).1.toNat ++ (al.drop ((c.pick s.length).2.pick al.length).1.toNat).take 1 ++ s.drop ((c.pick s.length).1.toNat + 1)
   else s.take (c.pick s.length).1.toNat ++ s.drop ((c.pick s.length).1.toNat + 1), (((c.pick s.length).2.pick al.length).2.pick 3).2)
theorem spoilt_len (s al : List UInt8) (c : Cur) : (spoiltF s al c).1.length ≤ s.length + 1 := by
  unfold spoiltF
  split
  · simp; omega
  · dsimp only
    split
    · simp; omega
    · split
      · simp; omega
      · simp; omega
theorem spoilt_i (s al : List UInt8) (c : Cur) : (spoiltF s al c).2.i ≤ c.i + 6 := by
  unfold spoiltF
  split
  · simp
  · have h1 := c.pick_le s.length
    have h2 := (c.pick s.length).2.pick_le al.length
    have h3 := ((c.pick s.length).2.pick al.length).2.pick_le 3
    dsimp only; omega
theorem spoilt_a (s al : List UInt8) (c : Cur) : (spoiltF s al c).2.a = c.a := by
  unfold spoiltF
  split
  · rfl
  · simp only [Cur.pick_a]
theorem c36 {K : List (Nat × Go.Obj)} [hK : Nonempty (KOk K)] {G : Heap} {m : Nat} {v : AC} {c : Cur} {s al : List UInt8} (hm : G[m]? = some (curB v c)) (hr : RdC (cx K) G m 1 eC v c.a) (hi : c.i ≤ 2 ^ 59) (hl : c.a.length ≤ 2 ^ 50) (hs : s.length ≤ 2 ^ 40) (ha : 1 ≤ al.length) (ha2 : al.length ≤ 2 ^ 40) : ACalls (cx K) 36 [.c (.pt (.l m) 0), aS (bs s), aS (bs al)] G (Vs (bs (spoiltF s al c).1)) (G.set m (curB v (spoiltF s al c).2)) := by
  have hlt := (List.getElem?_eq_some_iff.1 hm).1
  have m0 := hm
  have hr0 := hr
  refine acallsC hm (cur_lo (spoiltF s al c).2 hr) Tryd.func36 rfl rfl (fun S hS hw => ?_)
  refine aw_seq ?_
  refine aw_region ?_
  refine rr_pure (rp rfl) rfl rfl rfl ?_
  refine rr_nil rfl ?_
  refine then_n ?_
  refine aw_seq ?_
  refine aw_seq ?_
  refine aw_region ?_
  refine rr_pure (rp rfl) rfl rfl rfl ?_
  refine rr_pure (rp rfl) rfl rfl rfl ?_
  refine rr_nil rfl ?_
  refine then_n ?_
  refine aw_cond rfl (fun b1 => ?_) (fun b1 => ?_)
  · have b1p := b1; try simp only [s_inj, bs_toList, nil_toList, bs_inj, u8_eq, UInt8.toNat_inj, decide_eq_true_eq, decide_eq_false_iff_not, Bool.not_eq_true', Bool.not_eq_false', bne_iff_ne, ne_eq, bne_eq_false_iff_eq, beq_iff_eq, beq_eq_false_iff_ne, Int.natCast_inj] at b1p
    refine aw_seq ?_
    refine aw_region ?_
    refine rr_pure (rp rfl) rfl rfl rfl ?_
    refine rr_pure (r_subTo (h := 1) rfl rfl rfl rfl (by omega)) rfl rfl rfl ?_
    refine rr_pure (rp rfl) rfl rfl rfl ?_
    refine rr_nil rfl ?_
    refine then_n ?_
    refine aw_ret ?_
    refine then_r ?_
    have hz : spoiltF s al c = (al.take 1, c) := by unfold spoiltF; rw [if_pos b1p]
    rw [hz]
    exact fin_M (J := []) (by rw [set_same hm]) (resA_tmp rfl resA_nil) rfl rfl
  · have b1p := b1; try simp only [s_inj, bs_toList, nil_toList, bs_inj, u8_eq, UInt8.toNat_inj, decide_eq_true_eq, decide_eq_false_iff_not, Bool.not_eq_true', Bool.not_eq_false', bne_iff_ne, ne_eq, bne_eq_false_iff_eq, beq_iff_eq, beq_eq_false_iff_ne, Int.natCast_inj] at b1p
    have hs0 : 1 ≤ s.length := by cases s with | nil => exact absurd rfl b1p | cons a b => simp
    obtain ⟨x1, c1, e1⟩ : ∃ x y, c.pick (s.length) = (x, y) := ⟨_, _, rfl⟩
    have a1 : c1.a = c.a := by have := c.pick_a (s.length); rw [e1] at this; simpa [true_and] using this
    have i1 : c1.i ≤ c.i + 2 := by have := c.pick_le (s.length); rwa [e1] at this
    have d1 := c.pick_bd (n := s.length) (by omega)
    rw [e1] at d1; dsimp only at d1
    have la1 : c1.a.length ≤ 2 ^ 50 := by rw [a1]; exact hl
    obtain ⟨x2, c2, e2⟩ : ∃ x y, c1.pick (al.length) = (x, y) := ⟨_, _, rfl⟩
    have a2 : c2.a = c.a := by have := c1.pick_a (al.length); rw [e2] at this; simpa [a1] using this
    have i2 : c2.i ≤ c1.i + 2 := by have := c1.pick_le (al.length); rwa [e2] at this
    have d2 := c1.pick_bd (n := al.length) (by omega)
    rw [e2] at d2; dsimp only at d2
    have la2 : c2.a.length ≤ 2 ^ 50 := by rw [a2]; exact hl
    obtain ⟨x3, c3, e3⟩ : ∃ x y, c2.pick (3) = (x, y) := ⟨_, _, rfl⟩
    have a3 : c3.a = c.a := by have := c2.pick_a (3); rw [e3] at this; simpa [a1, a2] using this
    have i3 : c3.i ≤ c2.i + 2 := by have := c2.pick_le (3); rwa [e3] at this
    have d3 := c2.pick_bd (n := 3) (by omega)
    rw [e3] at d3; dsimp only at d3
    have la3 : c3.a.length ≤ 2 ^ 50 := by rw [a3]; exact hl
    obtain ⟨i, rfl⟩ := Int.eq_ofNat_of_zero_le d1.1
    obtain ⟨k, rfl⟩ := Int.eq_ofNat_of_zero_le d2.1
    have hsp : spoiltF s al c = (if x3 = 0 then s.take i ++ (al.drop k).take 1 ++ s.drop i else if x3 = 1 then s.take i ++ (al.drop k).take 1 ++ s.drop (i + 1) else s.take i ++ s.drop (i + 1), c3) := by unfold spoiltF; rw [if_neg b1p, e1]; dsimp only; rw [e2]; dsimp only; rw [e3]; rfl
    refine aw_skip ?_
    refine then_n ?_
    refine aw_seq ?_
    refine aw_region ?_
    refine rr_pure (rp rfl) rfl rfl rfl ?_
    refine rr_pure (rp rfl) rfl rfl rfl ?_
    refine rr_pure (r_lenB rfl rfl rfl) rfl rfl rfl ?_
    refine rr_eff (r_callF rfl rfl rfl (gset hlt (pickE e1 (at_g m0) hr0.app (by omega) hl))) rfl rfl rfl (by simp) ?_
    generalize hG1 : List.set G m _ = G1
    have l1 : G1.length = G.length := by rw [← hG1, List.length_set]
    have m1 : G1[m]? = some (curB v c1) := by rw [← hG1]; exact set_at m0
    have hr1 : RdC (cx K) G1 m 1 eC v c1.a := by rw [← hG1, a1]; exact hr.set _
    try rw [← l1]
    refine rr_pure (rp rfl) rfl rfl rfl ?_
    refine rr_nil rfl ?_
    refine then_n ?_
    refine aw_seq ?_
    refine aw_region ?_
    refine rr_pure (rp rfl) rfl rfl rfl ?_
    refine rr_pure (rp rfl) rfl rfl rfl ?_
    refine rr_pure (rp rfl) rfl rfl rfl ?_
    refine rr_pure (r_lenB rfl rfl rfl) rfl rfl rfl ?_
    refine rr_eff (r_callF rfl rfl rfl (gset (by rw [l1]; exact hlt) (pickE e2 (at_g m1) hr1.app (by omega) la1))) rfl rfl rfl (by simp) ?_
    generalize hG2 : List.set G1 m _ = G2
    have l2 : G2.length = G1.length := by rw [← hG2, List.length_set]
    have m2 : G2[m]? = some (curB v c2) := by rw [← hG2]; exact set_at m1
    have hr2 : RdC (cx K) G2 m 1 eC v c2.a := by have := hr1.set (curB v c2); rw [hG2, a1] at this; rw [a2]; exact this
    try rw [← l2]
    refine rr_pure (r_subFrom (h := k) rfl rfl rfl rfl (by omega)) rfl rfl rfl ?_
    refine rr_pure (r_subTo (h := 1) rfl rfl rfl rfl (by rw [List.length_drop]; omega)) rfl rfl rfl ?_
    refine rr_pure (rp rfl) rfl rfl rfl ?_
    refine rr_nil rfl ?_
    refine then_n ?_
    refine aw_seq ?_
    refine aw_seq ?_
    refine aw_region ?_
    refine rr_pure (rp rfl) rfl rfl rfl ?_
    refine rr_eff (r_callF rfl rfl rfl (gset (by rw [l2, l1]; exact hlt) (pickE e3 (at_g m2) hr2.app (by omega) la2))) rfl rfl rfl (by simp) ?_
    generalize hG3 : List.set G2 m _ = G3
    have l3 : G3.length = G2.length := by rw [← hG3, List.length_set]
    have m3 : G3[m]? = some (curB v c3) := by rw [← hG3]; exact set_at m2
    have hr3 : RdC (cx K) G3 m 1 eC v c3.a := by have := hr2.set (curB v c3); rw [hG3, a2] at this; rw [a3]; exact this
    try rw [← l3]
    refine rr_nil rfl ?_
    refine then_n ?_
    refine aw_block ?_
    refine aw_seq ?_
    refine aw_region ?_
    refine rr_pure (rp rfl) rfl rfl rfl ?_
    refine rr_pure (rp rfl) rfl rfl rfl ?_
    refine rr_nil rfl ?_
    refine then_n ?_
    refine aw_cond rfl (fun b2 => ?_) (fun b2 => ?_)
    · have b2p := b2; try simp only [s_inj, bs_toList, nil_toList, bs_inj, u8_eq, UInt8.toNat_inj, decide_eq_true_eq, decide_eq_false_iff_not, Bool.not_eq_true', Bool.not_eq_false', bne_iff_ne, ne_eq, bne_eq_false_iff_eq, beq_iff_eq, beq_eq_false_iff_ne, Int.natCast_inj] at b2p
      refine aw_seq ?_
      refine aw_region_draw ?_
      refine rr_pure (rp rfl) rfl rfl rfl ?_
      refine rr_pure (rp rfl) rfl rfl rfl ?_
      refine rr_pure (r_subTo rfl rfl rfl rfl (by omega)) rfl rfl rfl ?_
      refine rr_pure (rp rfl) rfl rfl rfl ?_
      refine rr_pure (r_catB rfl rfl rfl (by (try simp only [List.length_append, List.length_cons, List.length_nil, List.length_take, List.length_drop]); omega)) rfl rfl rfl ?_
      refine rr_pure (rp rfl) rfl rfl rfl ?_
      refine rr_pure (rp rfl) rfl rfl rfl ?_
      refine rr_pure (r_subFrom rfl rfl rfl rfl (by omega)) rfl rfl rfl ?_
      refine rr_pure (r_catB rfl rfl rfl (by (try simp only [List.length_append, List.length_cons, List.length_nil, List.length_take, List.length_drop]); omega)) rfl rfl rfl ?_
      refine rr_pure (rp rfl) rfl rfl rfl ?_
      refine rr_nil (by kernel_rfl) ?_
      refine then_n ?_
      refine aw_ret ?_
      refine inb_r ?_
      refine then_r ?_
      rw [hsp, if_pos b2p]
      exact fin_M (J := []) (by rw [← hG3, ← hG2, ← hG1, List.set_set, List.set_set]) (resA_tmp rfl resA_nil) rfl rfl
    · have b2p := b2; try simp only [s_inj, bs_toList, nil_toList, bs_inj, u8_eq, UInt8.toNat_inj, decide_eq_true_eq, decide_eq_false_iff_not, Bool.not_eq_true', Bool.not_eq_false', bne_iff_ne, ne_eq, bne_eq_false_iff_eq, beq_iff_eq, beq_eq_false_iff_ne, Int.natCast_inj] at b2p
      refine aw_seq ?_
      refine aw_region ?_
      refine rr_pure (rp rfl) rfl rfl rfl ?_
      refine rr_pure (rp rfl) rfl rfl rfl ?_
      refine rr_nil rfl ?_
      refine then_n ?_
      refine aw_cond rfl (fun b3 => ?_) (fun b3 => ?_)
      · have b3p := b3; try simp only [s_inj, bs_toList, nil_toList, bs_inj, u8_eq, UInt8.toNat_inj, decide_eq_true_eq, decide_eq_false_iff_not, Bool.not_eq_true', Bool.not_eq_false', bne_iff_ne, ne_eq, bne_eq_false_iff_eq, beq_iff_eq, beq_eq_false_iff_ne, Int.natCast_inj] at b3p
        refine aw_seq ?_
        refine aw_region_draw ?_
        refine rr_pure (rp rfl) rfl rfl rfl ?_
        refine rr_pure (rp rfl) rfl rfl rfl ?_
        refine rr_pure (r_subTo rfl rfl rfl rfl (by omega)) rfl rfl rfl ?_
        refine rr_pure (rp rfl) rfl rfl rfl ?_
        refine rr_pure (r_catB rfl rfl rfl (by (try simp only [List.length_append, List.length_cons, List.length_nil, List.length_take, List.length_drop]); omega)) rfl rfl rfl ?_
        refine rr_pure (rp rfl) rfl rfl rfl ?_
        refine rr_pure (rp rfl) rfl rfl rfl ?_
        refine rr_pure (r_addn rfl rfl rfl ⟨by omega, by omega⟩) rfl rfl rfl ?_
        refine rr_pure (r_subFrom (h := i + 1) rfl rfl rfl rfl (by omega)) rfl rfl rfl ?_
        refine rr_pure (r_catB rfl rfl rfl (by (try simp only [List.length_append, List.length_cons, List.length_nil, List.length_take, List.length_drop]); omega)) rfl rfl rfl ?_
        refine rr_pure (rp rfl) rfl rfl rfl ?_
        refine rr_nil (by kernel_rfl) ?_
        refine then_n ?_
        refine aw_ret ?_
        refine inb_r ?_
        refine then_r ?_
        rw [hsp, if_neg b2p, if_pos b3p]
        exact fin_M (J := []) (by rw [← hG3, ← hG2, ← hG1, List.set_set, List.set_set]) (resA_tmp rfl resA_nil) rfl rfl
      · have b3p := b3; try simp only [s_inj, bs_toList, nil_toList, bs_inj, u8_eq, UInt8.toNat_inj, decide_eq_true_eq, decide_eq_false_iff_not, Bool.not_eq_true', Bool.not_eq_false', bne_iff_ne, ne_eq, bne_eq_false_iff_eq, beq_iff_eq, beq_eq_false_iff_ne, Int.natCast_inj] at b3p
        refine aw_skip ?_
        refine inb_n ?_
        refine then_n ?_
        refine aw_seq ?_
        refine aw_region_draw ?_
        refine rr_pure (rp rfl) rfl rfl rfl ?_
        refine rr_pure (rp rfl) rfl rfl rfl ?_
        refine rr_pure (r_subTo rfl rfl rfl rfl (by omega)) rfl rfl rfl ?_
        refine rr_pure (rp rfl) rfl rfl rfl ?_
        refine rr_pure (rp rfl) rfl rfl rfl ?_
        refine rr_pure (r_addn rfl rfl rfl ⟨by omega, by omega⟩) rfl rfl rfl ?_
        refine rr_pure (r_subFrom (h := i + 1) rfl rfl rfl rfl (by omega)) rfl rfl rfl ?_
        refine rr_pure (r_catB rfl rfl rfl (by (try simp only [List.length_append, List.length_cons, List.length_nil, List.length_take, List.length_drop]); omega)) rfl rfl rfl ?_
        refine rr_pure (rp rfl) rfl rfl rfl ?_
        refine rr_nil (by kernel_rfl) ?_
        refine then_n ?_
        refine aw_ret ?_
        rw [hsp, if_neg b2p, if_neg b3p]
        exact fin_M (J := []) (by rw [← hG3, ← hG2, ← hG1, List.set_set, List.set_set]) (resA_tmp rfl resA_nil) rfl rfl
end Go.Proofs.YtfdopoijhjbamaaDoor
