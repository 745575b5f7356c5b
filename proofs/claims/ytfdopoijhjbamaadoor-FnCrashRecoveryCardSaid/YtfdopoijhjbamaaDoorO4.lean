/- Logs drawn. -/
import Derived.Test.YtfdopoijhjbamaaDoorO3
namespace Go.Proofs.YtfdopoijhjbamaaDoor
open Go.Aw Go.RowKit
set_option maxRecDepth 100000
set_option maxHeartbeats 2000000
set_option linter.unusedSimpArgs false
set_option linter.unusedVariables false
theorem openF_num : ∀ (n k : Nat) (s : List UInt8), (openF n k s).1.length ≤ n
  | 0, k, s => by simp [openF]
  | n + 1, k, s => by
    simp only [openF]
    split
    · cases ha : accF k (cutF 10 s).1 with
      | none => simp
      | some e => have := openF_num n (k + 1) (cutF 10 s).2.1; simp; omega
    · simp
theorem valid_bd {x : Lg} (h : validLog x = true) : 0 ≤ x.d ∧ x.d ≤ 60 ∧ x.p.length + x.n.length ≤ 24000 := by
  unfold validLog at h
  simp only [Bool.and_eq_true, decide_eq_true_eq] at h
  have h1 := logF_len (x.p ++ x.n)
  have h2 : (logF (x.p ++ x.n)).1.length ≤ 60 := openF_num 60 0 _
  omega
noncomputable def syncF (x : Lg) : Lg × Bool := if validLog x = true then (⟨x.p ++ x.n, [], x.d⟩, true) else (⟨[], [], 0⟩, false)
noncomputable def apdF (x : Lg) (e : Rc) : Lg × Int := if (validLog x && okRc e) = false then (x, 1) else if x.d = 60 then (x, 2) else (⟨x.p, x.n ++ lineF x.d e, x.d + 1⟩, 0)
def Small (x : Lg) : Prop := x.p.length ≤ 30000 ∧ x.n.length ≤ 30000 ∧ 0 ≤ x.d ∧ x.d ≤ 60
theorem sync_small (x : Lg) : Small (syncF x).1 := by
  unfold syncF Small
  split
  · rename_i h; have := valid_bd h; simp; omega
  · simp
theorem apd_small {x : Lg} {e : Rc} (h : Small x) : Small (apdF x e).1 := by
  unfold apdF
  split
  · exact h
  · rename_i h1
    split
    · exact h
    · simp only [Bool.not_eq_false, Bool.and_eq_true] at h1
      have h2 := valid_bd h1.1
      have h3 := line_len (k := x.d) h2.1 (by omega) h1.2
      unfold Small at h ⊢
      simp; omega
theorem c53 {K : List (Nat × Go.Obj)} [hK : Nonempty (KOk K)] (H : Heap) {x : Lg} (hp : x.p.length ≤ 2 ^ 30) (hq : x.n.length ≤ 2 ^ 30) : ACalls (cx K) 53 [aL x] H (.tu [aL (syncF x).1, aB (syncF x).2]) H := by
  refine acalls0 Tryd.func53 rfl rfl (fun S hS hw => ?_)
  refine aw_seq ?_
  refine aw_region ?_
  refine rr_memL (r_boxL rfl rfl) rfl rfl rfl ?_
  refine rr_memL (r_allocL rfl rfl) rfl rfl rfl ?_
  refine rr_pure (rp rfl) rfl rfl rfl ?_
  refine rr_nil rfl ?_
  refine then_n ?_
  refine aw_seq ?_
  refine aw_seq ?_
  refine aw_region ?_
  first
    | refine rr_read (r_loadL rfl rfl rfl rfl rfl) rfl rfl rfl ?_
    | refine rr_read (r_loadA rfl rfl rfl (Rd.at (by assumption) (by assumption)) rfl) rfl rfl rfl ?_
  refine rr_read (r_callF rfl rfl rfl (c21 _ (x := x) hp hq)) rfl rfl rfl  ?_
  refine rr_pure (rp rfl) rfl rfl rfl ?_
  refine rr_nil rfl ?_
  refine then_n ?_
  refine aw_cond rfl (fun b1 => ?_) (fun b1 => ?_)
  · have b1p := b1; try simp only [s_inj, bs_toList, nil_toList, bs_inj, u8_eq, UInt8.toNat_inj, decide_eq_true_eq, decide_eq_false_iff_not, Bool.not_eq_true', Bool.not_eq_false', bne_iff_ne, ne_eq, bne_eq_false_iff_eq, beq_iff_eq, beq_eq_false_iff_ne, Int.natCast_inj] at b1p
    refine aw_seq ?_
    refine aw_region ?_
    refine rr_pure (rp rfl) rfl rfl rfl ?_
    refine rr_eff (r_storeL rfl rfl rfl rfl rfl rfl rfl (Nat.le_of_ble_eq_true rfl)) rfl rfl rfl (by simp) ?_
    refine rr_pure (rp rfl) rfl rfl rfl ?_
    refine rr_nil rfl ?_
    refine then_n ?_
    refine aw_ret ?_
    refine then_r ?_
    have hz : syncF x = (⟨[], [], 0⟩, false) := by unfold syncF; rw [if_neg (by rw [b1p]; simp)]
    rw [hz]
    exact fin_r (resA_cell rfl rfl rfl rfl (resA_tmp rfl resA_nil)) rfl rfl rfl
  · have b1p := b1; try simp only [s_inj, bs_toList, nil_toList, bs_inj, u8_eq, UInt8.toNat_inj, decide_eq_true_eq, decide_eq_false_iff_not, Bool.not_eq_true', Bool.not_eq_false', bne_iff_ne, ne_eq, bne_eq_false_iff_eq, beq_iff_eq, beq_eq_false_iff_ne, Int.natCast_inj] at b1p
    refine aw_skip ?_
    refine then_n ?_
    refine aw_seq ?_
    refine aw_region ?_
    refine rr_pure (rp rfl) rfl rfl rfl ?_
    first
      | refine rr_read (r_loadL rfl rfl rfl rfl rfl) rfl rfl rfl ?_
      | refine rr_read (r_loadA rfl rfl rfl (Rd.at (by assumption) (by assumption)) rfl) rfl rfl rfl ?_
    refine rr_pure (rp rfl) rfl rfl rfl ?_
    first
      | refine rr_read (r_loadL rfl rfl rfl rfl rfl) rfl rfl rfl ?_
      | refine rr_read (r_loadA rfl rfl rfl (Rd.at (by assumption) (by assumption)) rfl) rfl rfl rfl ?_
    refine rr_pure (r_catB rfl rfl rfl (by (try simp only [List.length_append, List.length_cons, List.length_nil, List.length_take, List.length_drop]); omega)) rfl rfl rfl ?_
    refine rr_pure (rp rfl) rfl rfl rfl ?_
    first
      | refine rr_read (r_loadL rfl rfl rfl rfl rfl) rfl rfl rfl ?_
      | refine rr_read (r_loadA rfl rfl rfl (Rd.at (by assumption) (by assumption)) rfl) rfl rfl rfl ?_
    refine rr_pure (rp rfl) rfl rfl rfl ?_
    refine rr_eff (r_storeL rfl rfl rfl rfl rfl rfl rfl (Nat.le_of_ble_eq_true rfl)) rfl rfl rfl (by simp) ?_
    refine rr_pure (rp rfl) rfl rfl rfl ?_
    refine rr_nil rfl ?_
    refine then_n ?_
    refine aw_ret ?_
    have hz : syncF x = (⟨x.p ++ x.n, [], x.d⟩, true) := by unfold syncF; rw [if_pos b1p]
    rw [hz]
    exact fin_r (resA_cell rfl rfl rfl rfl (resA_tmp rfl resA_nil)) rfl rfl rfl
theorem c51 {K : List (Nat × Go.Obj)} [hK : Nonempty (KOk K)] (H : Heap) {x : Lg} {e : Rc} (hp : x.p.length ≤ 2 ^ 30) (hq : x.n.length ≤ 2 ^ 30) (he : e.q.length ≤ 2 ^ 30 ∧ e.a.length ≤ 2 ^ 30) : ACalls (cx K) 51 [aL x, aR e] H (.tu [aL (apdF x e).1, aI (apdF x e).2]) H := by
  refine acalls0 Tryd.func51 rfl rfl (fun S hS hw => ?_)
  refine aw_seq ?_
  refine aw_region ?_
  refine rr_memL (r_boxL rfl rfl) rfl rfl rfl ?_
  refine rr_memL (r_boxL rfl rfl) rfl rfl rfl ?_
  refine rr_memL (r_allocL rfl rfl) rfl rfl rfl ?_
  refine rr_pure (rp rfl) rfl rfl rfl ?_
  refine rr_nil rfl ?_
  refine then_n ?_
  refine aw_seq ?_
  refine aw_seq ?_
  refine aw_region ?_
  first
    | refine rr_read (r_loadL rfl rfl rfl rfl rfl) rfl rfl rfl ?_
    | refine rr_read (r_loadA rfl rfl rfl (Rd.at (by assumption) (by assumption)) rfl) rfl rfl rfl ?_
  refine rr_read (r_callF rfl rfl rfl (c21 _ (x := x) hp hq)) rfl rfl rfl  ?_
  refine rr_pure (rp rfl) rfl rfl rfl ?_
  refine rr_pure (rp rfl) rfl rfl rfl ?_
  refine rr_split rfl (fun g1 => ?_) (fun g1 => ?_)
  · have g1p := g1; try simp only [s_inj, bs_toList, nil_toList, bs_inj, u8_eq, UInt8.toNat_inj, decide_eq_true_eq, decide_eq_false_iff_not, Bool.not_eq_true', Bool.not_eq_false', bne_iff_ne, ne_eq, bne_eq_false_iff_eq, beq_iff_eq, beq_eq_false_iff_ne, Int.natCast_inj] at g1p
    refine rr_skip rfl rfl g1 ?_
    refine rr_skip rfl rfl g1 ?_
    refine rr_skip rfl rfl g1 ?_
    refine rr_pure (r_pick_t rfl rfl g1 rfl) rfl rfl rfl ?_
    refine rr_nil rfl ?_
    refine then_n ?_
    refine aw_cond rfl (fun _ => ?_) (fun b2 => by first | cases b2 | (rw [b2] at b2; cases b2) | simp_all)
    refine aw_seq ?_
    refine aw_region ?_
    first
      | refine rr_read (r_loadL rfl rfl rfl rfl rfl) rfl rfl rfl ?_
      | refine rr_read (r_loadA rfl rfl rfl (Rd.at (by assumption) (by assumption)) rfl) rfl rfl rfl ?_
    refine rr_eff (r_storeL rfl rfl rfl rfl rfl rfl rfl (Nat.le_of_ble_eq_true rfl)) rfl rfl rfl (by simp) ?_
    refine rr_pure (rp rfl) rfl rfl rfl ?_
    refine rr_nil rfl ?_
    refine then_n ?_
    refine aw_ret ?_
    refine then_r ?_
    have hz : apdF x e = (x, 1) := by unfold apdF; rw [if_pos (by rw [g1p]; rfl)]
    rw [hz]
    exact fin_r (resA_cell rfl rfl rfl rfl (resA_tmp rfl resA_nil)) rfl rfl rfl
  · have g1p := g1; try simp only [s_inj, bs_toList, nil_toList, bs_inj, u8_eq, UInt8.toNat_inj, decide_eq_true_eq, decide_eq_false_iff_not, Bool.not_eq_true', Bool.not_eq_false', bne_iff_ne, ne_eq, bne_eq_false_iff_eq, beq_iff_eq, beq_eq_false_iff_ne, Int.natCast_inj] at g1p
    first
      | refine rr_read (r_loadL rfl rfl rfl rfl rfl) rfl rfl g1 ?_
      | refine rr_read (r_loadA rfl rfl rfl (Rd.at (by assumption) (by assumption)) rfl) rfl rfl g1 ?_
    refine rr_read (r_callF rfl rfl rfl (c60 _ (e := e) (by omega) (by omega))) rfl rfl g1  ?_
    refine rr_pure (rp rfl) rfl rfl g1 ?_
    refine rr_pure (r_pick_f rfl rfl g1 rfl) rfl rfl rfl ?_
    refine rr_nil rfl ?_
    refine then_n ?_
    refine aw_cond rfl (fun b3 => ?_) (fun b3 => ?_)
    · have b3p := b3; try simp only [s_inj, bs_toList, nil_toList, bs_inj, u8_eq, UInt8.toNat_inj, decide_eq_true_eq, decide_eq_false_iff_not, Bool.not_eq_true', Bool.not_eq_false', bne_iff_ne, ne_eq, bne_eq_false_iff_eq, beq_iff_eq, beq_eq_false_iff_ne, Int.natCast_inj] at b3p
      refine aw_seq ?_
      refine aw_region ?_
      first
        | refine rr_read (r_loadL rfl rfl rfl rfl rfl) rfl rfl rfl ?_
        | refine rr_read (r_loadA rfl rfl rfl (Rd.at (by assumption) (by assumption)) rfl) rfl rfl rfl ?_
      refine rr_eff (r_storeL rfl rfl rfl rfl rfl rfl rfl (Nat.le_of_ble_eq_true rfl)) rfl rfl rfl (by simp) ?_
      refine rr_pure (rp rfl) rfl rfl rfl ?_
      refine rr_nil rfl ?_
      refine then_n ?_
      refine aw_ret ?_
      refine then_r ?_
      have hz : apdF x e = (x, 1) := by unfold apdF; rw [if_pos (by rw [b3p]; simp)]
      rw [hz]
      exact fin_r (resA_cell rfl rfl rfl rfl (resA_tmp rfl resA_nil)) rfl rfl rfl
    · have b3p := b3; try simp only [s_inj, bs_toList, nil_toList, bs_inj, u8_eq, UInt8.toNat_inj, decide_eq_true_eq, decide_eq_false_iff_not, Bool.not_eq_true', Bool.not_eq_false', bne_iff_ne, ne_eq, bne_eq_false_iff_eq, beq_iff_eq, beq_eq_false_iff_ne, Int.natCast_inj] at b3p
      have hv := valid_bd g1p
      have hl4 := line_len (k := x.d) hv.1 (by omega) b3p
      have hvo : ¬ (validLog x && okRc e) = false := by rw [g1p, b3p]; simp
      refine aw_skip ?_
      refine then_n ?_
      refine aw_seq ?_
      refine aw_seq ?_
      refine aw_region ?_
      refine rr_pure (rp rfl) rfl rfl rfl ?_
      first
        | refine rr_read (r_loadL rfl rfl rfl rfl rfl) rfl rfl rfl ?_
        | refine rr_read (r_loadA rfl rfl rfl (Rd.at (by assumption) (by assumption)) rfl) rfl rfl rfl ?_
      refine rr_pure (rp rfl) rfl rfl rfl ?_
      refine rr_nil rfl ?_
      refine then_n ?_
      refine aw_cond rfl (fun b4 => ?_) (fun b4 => ?_)
      · have b4p := b4; try simp only [s_inj, bs_toList, nil_toList, bs_inj, u8_eq, UInt8.toNat_inj, decide_eq_true_eq, decide_eq_false_iff_not, Bool.not_eq_true', Bool.not_eq_false', bne_iff_ne, ne_eq, bne_eq_false_iff_eq, beq_iff_eq, beq_eq_false_iff_ne, Int.natCast_inj] at b4p
        refine aw_seq ?_
        refine aw_region ?_
        first
          | refine rr_read (r_loadL rfl rfl rfl rfl rfl) rfl rfl rfl ?_
          | refine rr_read (r_loadA rfl rfl rfl (Rd.at (by assumption) (by assumption)) rfl) rfl rfl rfl ?_
        refine rr_eff (r_storeL rfl rfl rfl rfl rfl rfl rfl (Nat.le_of_ble_eq_true rfl)) rfl rfl rfl (by simp) ?_
        refine rr_pure (rp rfl) rfl rfl rfl ?_
        refine rr_nil rfl ?_
        refine then_n ?_
        refine aw_ret ?_
        refine then_r ?_
        have hz : apdF x e = (x, 2) := by unfold apdF; rw [if_neg hvo, if_pos b4p]
        rw [hz]
        exact fin_r (resA_cell rfl rfl rfl rfl (resA_tmp rfl resA_nil)) rfl rfl rfl
      · have b4p := b4; try simp only [s_inj, bs_toList, nil_toList, bs_inj, u8_eq, UInt8.toNat_inj, decide_eq_true_eq, decide_eq_false_iff_not, Bool.not_eq_true', Bool.not_eq_false', bne_iff_ne, ne_eq, bne_eq_false_iff_eq, beq_iff_eq, beq_eq_false_iff_ne, Int.natCast_inj] at b4p
        refine aw_skip ?_
        refine then_n ?_
        refine aw_seq ?_
        refine aw_region_draw ?_
        refine rr_pure (rp rfl) rfl rfl rfl ?_
        first
          | refine rr_read (r_loadL rfl rfl rfl rfl rfl) rfl rfl rfl ?_
          | refine rr_read (r_loadA rfl rfl rfl (Rd.at (by assumption) (by assumption)) rfl) rfl rfl rfl ?_
        refine rr_pure (rp rfl) rfl rfl rfl ?_
        first
          | refine rr_read (r_loadL rfl rfl rfl rfl rfl) rfl rfl rfl ?_
          | refine rr_read (r_loadA rfl rfl rfl (Rd.at (by assumption) (by assumption)) rfl) rfl rfl rfl ?_
        first
          | refine rr_read (r_loadL rfl rfl rfl rfl rfl) rfl rfl rfl ?_
          | refine rr_read (r_loadA rfl rfl rfl (Rd.at (by assumption) (by assumption)) rfl) rfl rfl rfl ?_
        refine rr_read (r_callF rfl rfl rfl (c61 _ (e := e) (by omega) (by omega) (by omega) (by omega))) rfl rfl rfl  ?_
        refine rr_pure (r_catB rfl rfl rfl (by omega)) rfl rfl rfl ?_
        refine rr_pure (rp rfl) rfl rfl rfl ?_
        refine rr_eff (r_storeL rfl rfl rfl rfl rfl rfl rfl (Nat.le_of_ble_eq_true rfl)) rfl rfl rfl (by simp) ?_
        refine rr_nil (by kernel_rfl) ?_
        refine then_n ?_
        refine aw_seq ?_
        refine aw_region ?_
        refine rr_pure (rp rfl) rfl rfl rfl ?_
        first
          | refine rr_read (r_loadL rfl rfl rfl rfl rfl) rfl rfl rfl ?_
          | refine rr_read (r_loadA rfl rfl rfl (Rd.at (by assumption) (by assumption)) rfl) rfl rfl rfl ?_
        refine rr_pure (r_addn rfl rfl rfl ⟨by omega, by omega⟩) rfl rfl rfl ?_
        refine rr_pure (rp rfl) rfl rfl rfl ?_
        refine rr_eff (r_storeL rfl rfl rfl rfl rfl rfl rfl (Nat.le_of_ble_eq_true rfl)) rfl rfl rfl (by simp) ?_
        refine rr_nil rfl ?_
        refine then_n ?_
        refine aw_seq ?_
        refine aw_region ?_
        first
          | refine rr_read (r_loadL rfl rfl rfl rfl rfl) rfl rfl rfl ?_
          | refine rr_read (r_loadA rfl rfl rfl (Rd.at (by assumption) (by assumption)) rfl) rfl rfl rfl ?_
        refine rr_eff (r_storeL rfl rfl rfl rfl rfl rfl rfl (Nat.le_of_ble_eq_true rfl)) rfl rfl rfl (by simp) ?_
        refine rr_pure (rp rfl) rfl rfl rfl ?_
        refine rr_nil rfl ?_
        refine then_n ?_
        refine aw_ret ?_
        have hz : apdF x e = (⟨x.p, x.n ++ lineF x.d e, x.d + 1⟩, 0) := by unfold apdF; rw [if_neg hvo, if_neg b4p]
        rw [hz]
        exact fin_r (resA_cell rfl rfl rfl rfl (resA_tmp rfl resA_nil)) rfl rfl rfl
theorem rec_i (c : Cur) : (recF c).2.i ≤ c.i + 8 := by
  have h1 := c.pick_le 5
  have h2 := (c.pick 5).2.pick_le 5
  have h3 := ((c.pick 5).2.pick 5).2.pick_le 24
  rw [recF_eq]
  split
  · have h4 := (((c.pick 5).2.pick 5).2.pick 24).2.pick_le 5
    dsimp only; omega
  · split
    · have h4 := (((c.pick 5).2.pick 5).2.pick 24).2.pick_le 3
      dsimp only; omega
    · dsimp only; omega
theorem rec_a (c : Cur) : (recF c).2.a = c.a := by
  rw [recF_eq]
  split
  · simp only [Cur.pick_a]
  · split <;> simp only [Cur.pick_a]
theorem rec_len (c : Cur) : (recF c).1.q.length ≤ 10 ∧ (recF c).1.a.length ≤ 10 := by
  have big : ∀ (xs : List (List UInt8)) (c : Cur), 1 ≤ xs.length → (∀ x ∈ xs, x.length ≤ 10) → (ofF xs c).length ≤ 10 := fun xs c h h2 => h2 _ (of_mem c h)
  have q1 : ∀ x ∈ Q1, x.length ≤ 10 := by decide
  have a1 : ∀ x ∈ A1, x.length ≤ 10 := by decide
  have q2 : ∀ x ∈ Q2, x.length ≤ 10 := by decide
  have a3 : ∀ x ∈ A3, x.length ≤ 10 := by decide
  rw [recF_eq]
  split
  · exact ⟨big _ _ (by decide) q2, big _ _ (by decide) a1⟩
  · split
    · exact ⟨big _ _ (by decide) q1, big _ _ (by decide) a3⟩
    · exact ⟨big _ _ (by decide) q1, big _ _ (by decide) a1⟩
theorem recE {K : List (Nat × Go.Obj)} [hK : Nonempty (KOk K)] {G : Heap} {m : Nat} {v : AC} {c c' : Cur} {e : Rc} (h : recF c = (e, c')) (hm : G[m]? = some (curB v c)) (hr : RdC (cx K) G m 1 eC v c.a) (hi : c.i ≤ 2 ^ 59) (hl : c.a.length ≤ 2 ^ 50) : ACalls (cx K) 52 [.c (.pt (.l m) 0)] G (.v (aR e)) (G.set m (curB v c')) := by
  have := c52 hm hr hi hl
  rwa [h] at this
theorem oneE {K : List (Nat × Go.Obj)} [hK : Nonempty (KOk K)] {G : Heap} {m : Nat} {v : AC} {c c' : Cur} {n x : Int} (e : c.pick n = (x, c')) (hm : G[m]? = some (curB v c)) (hr : RdC (cx K) G m 1 eC v c.a) (hi : c.i ≤ 2 ^ 60) (hl : c.a.length ≤ 2 ^ 50) : ACalls (cx K) 26 [.c (.pt (.l m) 0), aI n] G (Vb (x == 0)) (G.set m (curB v c')) := by
  have := c26 (n := n) hm hr hi hl
  rwa [e] at this
theorem ld_setg {K : List (Nat × Go.Obj)} [hK : Nonempty (KOk K)] {G L : Heap} {m j off n : Nat} {x : Option Blk} {cs : List AC} (h : ldL L j off n = some cs) : ld (cx K) (G.set m x ++ L) (.l (G.length + j)) off n = some cs := by
  have := ld_own (X := (cx K)) (H := G.set m x) h
  rwa [List.length_set] at this
/-- The log after k more rounds. -/
noncomputable def roundF (x : Lg) (c : Cur) : Lg := if ((recF c).2.pick 4).1 = 0 then (syncF (apdF x (recF c).1).1).1 else (apdF x (recF c).1).1
noncomputable def logG : Nat → Lg → Cur → Lg × Cur
  | 0, x, c => (x, c)
  | k + 1, x, c => logG k (roundF x c) ((recF c).2.pick 4).2
theorem round_small {x : Lg} {c : Cur} (h : Small x) : Small (roundF x c) := by
  unfold roundF
  split
  · exact sync_small _
  · exact apd_small h
theorem logG_small : ∀ (k : Nat) {x : Lg} {c : Cur}, Small x → Small (logG k x c).1
  | 0, x, c, h => h
  | k + 1, x, c, h => logG_small k (round_small h)
theorem logG_i : ∀ (k : Nat) (x : Lg) (c : Cur), (logG k x c).2.i ≤ c.i + 10 * k
  | 0, x, c => by simp [logG]
  | k + 1, x, c => by
    have h1 := logG_i k (roundF x c) ((recF c).2.pick 4).2
    have h2 := (recF c).2.pick_le 4
    have h3 := rec_i c
    simp only [logG]; omega
theorem logG_a : ∀ (k : Nat) (x : Lg) (c : Cur), (logG k x c).2.a = c.a
  | 0, x, c => rfl
  | k + 1, x, c => by simp only [logG]; rw [logG_a k, Cur.pick_a, rec_a]
noncomputable def logD (c : Cur) : Lg × Cur := logG (c.pick 7).1.toNat ⟨[], [], 0⟩ (c.pick 7).2
theorem logD_small (c : Cur) : Small (logD c).1 := logG_small _ (by unfold Small; simp)
theorem logD_i (c : Cur) : (logD c).2.i ≤ c.i + 100 := by
  have h1 := logG_i (c.pick 7).1.toNat ⟨[], [], 0⟩ (c.pick 7).2
  have h2 := c.pick_le 7
  have h3 := c.pick_bd (n := 7) (by omega)
  unfold logD; omega
theorem logD_a (c : Cur) : (logD c).2.a = c.a := by unfold logD; rw [logG_a, Cur.pick_a]
end Go.Proofs.YtfdopoijhjbamaaDoor
