/- Lines of the log: how they are written and read. -/
import Derived.Test.YtfdopoijhjbamaaDoorM3
namespace Go.Proofs.YtfdopoijhjbamaaDoor
open Go.Aw Go.RowKit
set_option maxRecDepth 100000
set_option linter.unusedSimpArgs false
set_option linter.unusedVariables false
theorem okRc_spec (e : Rc) : okRc e = (!(e.q == []) && ((e.q.all okB && !e.q.contains 35 && decide ((e.q.length : Int) ≤ 160)) && (!e.q.contains 64 && (e.a.all okB && !e.a.contains 35 && decide ((e.a.length : Int) ≤ 200))))) := by
  unfold okRc okQ okA
  rw [Bool.eq_iff_iff]
  simp only [Bool.and_eq_true, decide_eq_true_eq, Bool.not_eq_true', beq_eq_false_iff_ne, ne_eq]
  constructor
  · rintro ⟨⟨⟨⟨⟨h1, h2⟩, h3⟩, h4⟩, h5⟩, ⟨h6, h7⟩, h8⟩
    exact ⟨fun e' => by rw [e'] at h1; simp at h1, ⟨⟨h3, h4⟩, by omega⟩, h5, ⟨h7, h8⟩, by omega⟩
  · rintro ⟨h1, ⟨⟨h3, h4⟩, h2⟩, h5, ⟨h7, h8⟩, h6⟩
    exact ⟨⟨⟨⟨⟨by cases hq : e.q with | nil => exact absurd hq h1 | cons a b => simp, by omega⟩, h3⟩, h4⟩, h5⟩, ⟨by omega, h7⟩, h8⟩
theorem q_nil (q : List UInt8) : (!((bs q).toList == (⟨#[]⟩ : ByteArray).toList)) = !(q == []) := by rw [bs_toList, nil_toList]
theorem c60 {K : List (Nat × Go.Obj)} [hK : Nonempty (KOk K)] (H : Heap) {e : Rc} (hq : e.q.length ≤ 2 ^ 40) (ha : e.a.length ≤ 2 ^ 40) : ACalls (cx K) 60 [aR e] H (Vb (okRc e)) H := by
  refine acalls0 Tryd.func60 rfl rfl (fun S hS hw => ?_)
  refine aw_seq ?_
  refine aw_region ?_
  refine rr_memL (r_boxL rfl rfl) rfl rfl rfl ?_
  refine rr_pure (rp rfl) rfl rfl rfl ?_
  refine rr_nil rfl ?_
  refine then_n ?_
  refine aw_seq ?_
  refine aw_region ?_
  refine rr_pure (rp rfl) rfl rfl rfl ?_
  first
    | refine rr_read (r_loadL rfl rfl rfl rfl rfl) rfl rfl rfl ?_
    | refine rr_read (r_loadA rfl rfl rfl (Rd.at (by assumption) (by assumption)) rfl) rfl rfl rfl ?_
  refine rr_pure (rp rfl) rfl rfl rfl ?_
  refine rr_pure (rp rfl) rfl rfl rfl ?_
  refine rr_split rfl (fun g1 => ?_) (fun g1 => ?_)
  · have g1p := g1; try simp only [s_inj, bs_toList, nil_toList, bs_inj, u8_eq, UInt8.toNat_inj, decide_eq_true_eq, decide_eq_false_iff_not, Bool.not_eq_true', Bool.not_eq_false', bne_iff_ne, ne_eq, bne_eq_false_iff_eq, beq_iff_eq, beq_eq_false_iff_ne, Int.natCast_inj] at g1p
    refine rr_pure (rp rfl) rfl rfl g1 ?_
    first
      | refine rr_read (r_loadL rfl rfl rfl rfl rfl) rfl rfl g1 ?_
      | refine rr_read (r_loadA rfl rfl rfl (Rd.at (by assumption) (by assumption)) rfl) rfl rfl g1 ?_
    refine rr_read (r_callF rfl rfl rfl (c72 _ (by omega))) rfl rfl g1  ?_
    refine rr_pure (r_pick_t rfl rfl g1 rfl) rfl rfl rfl ?_
    refine rr_pure (rp rfl) rfl rfl rfl ?_
    refine rr_split rfl (fun g2 => ?_) (fun g2 => ?_)
    · have g2p := g2; try simp only [s_inj, bs_toList, nil_toList, bs_inj, u8_eq, UInt8.toNat_inj, decide_eq_true_eq, decide_eq_false_iff_not, Bool.not_eq_true', Bool.not_eq_false', bne_iff_ne, ne_eq, bne_eq_false_iff_eq, beq_iff_eq, beq_eq_false_iff_ne, Int.natCast_inj] at g2p
      refine rr_pure (rp rfl) rfl rfl g2 ?_
      first
        | refine rr_read (r_loadL rfl rfl rfl rfl rfl) rfl rfl g2 ?_
        | refine rr_read (r_loadA rfl rfl rfl (Rd.at (by assumption) (by assumption)) rfl) rfl rfl g2 ?_
      refine rr_read (r_callF rfl rfl rfl (c73 _ (c := 64) (by omega))) rfl rfl g2  ?_
      refine rr_pure (rp rfl) rfl rfl g2 ?_
      refine rr_pure (r_pick_t rfl rfl g2 rfl) rfl rfl rfl ?_
      refine rr_pure (rp rfl) rfl rfl rfl ?_
      refine rr_split rfl (fun g3 => ?_) (fun g3 => ?_)
      · have g3p := g3; try simp only [s_inj, bs_toList, nil_toList, bs_inj, u8_eq, UInt8.toNat_inj, decide_eq_true_eq, decide_eq_false_iff_not, Bool.not_eq_true', Bool.not_eq_false', bne_iff_ne, ne_eq, bne_eq_false_iff_eq, beq_iff_eq, beq_eq_false_iff_ne, Int.natCast_inj] at g3p
        refine rr_pure (rp rfl) rfl rfl g3 ?_
        first
          | refine rr_read (r_loadL rfl rfl rfl rfl rfl) rfl rfl g3 ?_
          | refine rr_read (r_loadA rfl rfl rfl (Rd.at (by assumption) (by assumption)) rfl) rfl rfl g3 ?_
        refine rr_read (r_callF rfl rfl rfl (c72 _ (by omega))) rfl rfl g3  ?_
        refine rr_pure (r_pick_t rfl rfl g3 rfl) rfl rfl rfl ?_
        refine rr_pure (rp rfl) rfl rfl rfl ?_
        refine rr_nil rfl ?_
        refine then_n ?_
        refine aw_ret ?_
        exact fin_b rfl (by rw [okRc_spec, ← q_nil, g1, g2, g3]; rfl)
      · have g3p := g3; try simp only [s_inj, bs_toList, nil_toList, bs_inj, u8_eq, UInt8.toNat_inj, decide_eq_true_eq, decide_eq_false_iff_not, Bool.not_eq_true', Bool.not_eq_false', bne_iff_ne, ne_eq, bne_eq_false_iff_eq, beq_iff_eq, beq_eq_false_iff_ne, Int.natCast_inj] at g3p
        refine rr_skip rfl rfl g3 ?_
        refine rr_skip rfl rfl g3 ?_
        refine rr_skip rfl rfl g3 ?_
        refine rr_pure (r_pick_f rfl rfl g3 rfl) rfl rfl rfl ?_
        refine rr_pure (rp rfl) rfl rfl rfl ?_
        refine rr_nil rfl ?_
        refine then_n ?_
        refine aw_ret ?_
        exact fin_b rfl (by rw [okRc_spec, ← q_nil, g1, g2, g3]; rfl)
    · have g2p := g2; try simp only [s_inj, bs_toList, nil_toList, bs_inj, u8_eq, UInt8.toNat_inj, decide_eq_true_eq, decide_eq_false_iff_not, Bool.not_eq_true', Bool.not_eq_false', bne_iff_ne, ne_eq, bne_eq_false_iff_eq, beq_iff_eq, beq_eq_false_iff_ne, Int.natCast_inj] at g2p
      refine rr_skip rfl rfl g2 ?_
      refine rr_skip rfl rfl g2 ?_
      refine rr_skip rfl rfl g2 ?_
      refine rr_skip rfl rfl g2 ?_
      refine rr_pure (r_pick_f rfl rfl g2 rfl) rfl rfl rfl ?_
      refine rr_pure (rp rfl) rfl rfl rfl ?_
      refine rr_skip rfl rfl rfl ?_
      refine rr_skip rfl rfl rfl ?_
      refine rr_skip rfl rfl rfl ?_
      refine rr_pure (r_pick_f rfl rfl rfl rfl) rfl rfl rfl ?_
      refine rr_pure (rp rfl) rfl rfl rfl ?_
      refine rr_nil rfl ?_
      refine then_n ?_
      refine aw_ret ?_
      exact fin_b rfl (by rw [okRc_spec, ← q_nil, g1, g2]; rfl)
  · have g1p := g1; try simp only [s_inj, bs_toList, nil_toList, bs_inj, u8_eq, UInt8.toNat_inj, decide_eq_true_eq, decide_eq_false_iff_not, Bool.not_eq_true', Bool.not_eq_false', bne_iff_ne, ne_eq, bne_eq_false_iff_eq, beq_iff_eq, beq_eq_false_iff_ne, Int.natCast_inj] at g1p
    refine rr_skip rfl rfl g1 ?_
    refine rr_skip rfl rfl g1 ?_
    refine rr_skip rfl rfl g1 ?_
    refine rr_pure (r_pick_f rfl rfl g1 rfl) rfl rfl rfl ?_
    refine rr_pure (rp rfl) rfl rfl rfl ?_
    refine rr_skip rfl rfl rfl ?_
    refine rr_skip rfl rfl rfl ?_
    refine rr_skip rfl rfl rfl ?_
    refine rr_skip rfl rfl rfl ?_
    refine rr_pure (r_pick_f rfl rfl rfl rfl) rfl rfl rfl ?_
    refine rr_pure (rp rfl) rfl rfl rfl ?_
    refine rr_skip rfl rfl rfl ?_
    refine rr_skip rfl rfl rfl ?_
    refine rr_skip rfl rfl rfl ?_
    refine rr_pure (r_pick_f rfl rfl rfl rfl) rfl rfl rfl ?_
    refine rr_pure (rp rfl) rfl rfl rfl ?_
    refine rr_nil rfl ?_
    refine then_n ?_
    refine aw_ret ?_
    exact fin_b rfl (by rw [okRc_spec, ← q_nil, g1]; rfl)
/-- The digits. -/
abbrev D10 : List UInt8 := [48, 49, 50, 51, 52, 53, 54, 55, 56, 57]
theorem dig : ∀ m : Nat, m < 10 → (D10.take (m + 1)).drop m = [UInt8.ofNat (48 + m)] := by decide
theorem itoa_lt {m : Nat} (h : m < 10) : Lib.itoa (m : Int) = [UInt8.ofNat (48 + m)] := by
  unfold Lib.itoa; rw [if_neg (by omega), Int.toNat_natCast, Lib.decDigits, dif_pos h]
theorem itoa_ge {m : Nat} (h : ¬ m < 10) : Lib.itoa (m : Int) = Lib.itoa ((m / 10 : Nat) : Int) ++ [UInt8.ofNat (48 + m % 10)] := by
  unfold Lib.itoa; rw [if_neg (by omega), if_neg (by omega), Int.toNat_natCast, Int.toNat_natCast, Lib.decDigits, dif_neg h]
theorem itoa_long (m : Nat) (h : m ≤ 2 ^ 62) : (Lib.itoa (m : Int)).length ≤ 20 := by
  unfold Lib.itoa; rw [if_neg (by omega), Int.toNat_natCast]; exact digits_len 19 m (by omega)
theorem c59d {K : List (Nat × Go.Obj)} [hK : Nonempty (KOk K)] : ∀ (d m : Nat) (H : Heap), m ≤ d → m ≤ 2 ^ 62 → ACalls (cx K) 59 [aI (m : Int)] H (Vs (bs (Lib.itoa (m : Int)))) H := by
  intro d
  induction d with
  | zero =>
    intro m H hm hb
    obtain rfl : m = 0 := by omega
    refine acalls0 Tryd.func59 rfl rfl (fun S hS hw => ?_)
    refine aw_seq ?_
    refine aw_region ?_
    refine rr_pure (rp rfl) rfl rfl rfl ?_
    refine rr_nil rfl ?_
    refine then_n ?_
    refine aw_seq ?_
    refine aw_seq ?_
    refine aw_region ?_
    refine rr_pure (rp rfl) rfl rfl rfl ?_
    refine rr_pure (rp rfl) rfl rfl rfl ?_
    refine rr_nil rfl ?_
    refine then_n ?_
    refine aw_cond rfl (fun b1 => ?_) (fun b1 => ?_)
    · have b1p := b1; try simp only [s_inj, bs_toList, nil_toList, bs_inj, u8_eq, UInt8.toNat_inj, decide_eq_true_eq, decide_eq_false_iff_not, Bool.not_eq_true', Bool.not_eq_false', bne_iff_ne, ne_eq, bne_eq_false_iff_eq, beq_iff_eq, beq_eq_false_iff_ne, Int.natCast_inj] at b1p
      exfalso; omega
    · have b1p := b1; try simp only [s_inj, bs_toList, nil_toList, bs_inj, u8_eq, UInt8.toNat_inj, decide_eq_true_eq, decide_eq_false_iff_not, Bool.not_eq_true', Bool.not_eq_false', bne_iff_ne, ne_eq, bne_eq_false_iff_eq, beq_iff_eq, beq_eq_false_iff_ne, Int.natCast_inj] at b1p
      refine aw_skip ?_
      refine then_n ?_
      refine aw_seq ?_
      refine aw_seq ?_
      refine aw_region ?_
      refine rr_pure (rp rfl) rfl rfl rfl ?_
      refine rr_pure (rp rfl) rfl rfl rfl ?_
      refine rr_nil rfl ?_
      refine then_n ?_
      refine aw_cond rfl (fun b2 => ?_) (fun b2 => ?_)
      · have b2p := b2; try simp only [s_inj, bs_toList, nil_toList, bs_inj, u8_eq, UInt8.toNat_inj, decide_eq_true_eq, decide_eq_false_iff_not, Bool.not_eq_true', Bool.not_eq_false', bne_iff_ne, ne_eq, bne_eq_false_iff_eq, beq_iff_eq, beq_eq_false_iff_ne, Int.natCast_inj] at b2p
        refine aw_seq ?_
        refine aw_region ?_
        refine rr_pure (rp rfl) rfl rfl rfl ?_
        refine rr_pure (rp rfl) rfl rfl rfl ?_
        refine rr_pure (r_addn rfl rfl rfl ⟨by omega, by omega⟩) rfl rfl rfl ?_
        refine rr_pure (r_subB (l := D10) (g := 0) (h := 1) rfl rfl rfl rfl rfl (by decide) (by decide)) rfl rfl rfl ?_
        refine rr_pure (rp rfl) rfl rfl rfl ?_
        refine rr_nil rfl ?_
        refine then_n ?_
        refine aw_ret ?_
        refine then_r ?_
        exact fin_s rfl (by rw [dig 0 (by decide), itoa_lt (by decide)])
      · have b2p := b2; try simp only [s_inj, bs_toList, nil_toList, bs_inj, u8_eq, UInt8.toNat_inj, decide_eq_true_eq, decide_eq_false_iff_not, Bool.not_eq_true', Bool.not_eq_false', bne_iff_ne, ne_eq, bne_eq_false_iff_eq, beq_iff_eq, beq_eq_false_iff_ne, Int.natCast_inj] at b2p
        exfalso; omega
  | succ d ih =>
    intro m H hm hb
    refine acalls0 Tryd.func59 rfl rfl (fun S hS hw => ?_)
    refine aw_seq ?_
    refine aw_region ?_
    refine rr_pure (rp rfl) rfl rfl rfl ?_
    refine rr_nil rfl ?_
    refine then_n ?_
    refine aw_seq ?_
    refine aw_seq ?_
    refine aw_region ?_
    refine rr_pure (rp rfl) rfl rfl rfl ?_
    refine rr_pure (rp rfl) rfl rfl rfl ?_
    refine rr_nil rfl ?_
    refine then_n ?_
    refine aw_cond rfl (fun b1 => ?_) (fun b1 => ?_)
    · have b1p := b1; try simp only [s_inj, bs_toList, nil_toList, bs_inj, u8_eq, UInt8.toNat_inj, decide_eq_true_eq, decide_eq_false_iff_not, Bool.not_eq_true', Bool.not_eq_false', bne_iff_ne, ne_eq, bne_eq_false_iff_eq, beq_iff_eq, beq_eq_false_iff_ne, Int.natCast_inj] at b1p
      exfalso; omega
    · have b1p := b1; try simp only [s_inj, bs_toList, nil_toList, bs_inj, u8_eq, UInt8.toNat_inj, decide_eq_true_eq, decide_eq_false_iff_not, Bool.not_eq_true', Bool.not_eq_false', bne_iff_ne, ne_eq, bne_eq_false_iff_eq, beq_iff_eq, beq_eq_false_iff_ne, Int.natCast_inj] at b1p
      refine aw_skip ?_
      refine then_n ?_
      refine aw_seq ?_
      refine aw_seq ?_
      refine aw_region ?_
      refine rr_pure (rp rfl) rfl rfl rfl ?_
      refine rr_pure (rp rfl) rfl rfl rfl ?_
      refine rr_nil rfl ?_
      refine then_n ?_
      refine aw_cond rfl (fun b2 => ?_) (fun b2 => ?_)
      · have b2p := b2; try simp only [s_inj, bs_toList, nil_toList, bs_inj, u8_eq, UInt8.toNat_inj, decide_eq_true_eq, decide_eq_false_iff_not, Bool.not_eq_true', Bool.not_eq_false', bne_iff_ne, ne_eq, bne_eq_false_iff_eq, beq_iff_eq, beq_eq_false_iff_ne, Int.natCast_inj] at b2p
        refine aw_seq ?_
        refine aw_region ?_
        refine rr_pure (rp rfl) rfl rfl rfl ?_
        refine rr_pure (rp rfl) rfl rfl rfl ?_
        refine rr_pure (r_addn rfl rfl rfl ⟨by omega, by omega⟩) rfl rfl rfl ?_
        refine rr_pure (r_subB (l := D10) (g := m) (h := m + 1) rfl rfl rfl rfl rfl (by omega) (by simp only [D10, List.length_cons, List.length_nil]; omega)) rfl rfl rfl ?_
        refine rr_pure (rp rfl) rfl rfl rfl ?_
        refine rr_nil rfl ?_
        refine then_n ?_
        refine aw_ret ?_
        refine then_r ?_
        exact fin_s rfl (by rw [dig m (by omega), itoa_lt (by omega)])
      · have b2p := b2; try simp only [s_inj, bs_toList, nil_toList, bs_inj, u8_eq, UInt8.toNat_inj, decide_eq_true_eq, decide_eq_false_iff_not, Bool.not_eq_true', Bool.not_eq_false', bne_iff_ne, ne_eq, bne_eq_false_iff_eq, beq_iff_eq, beq_eq_false_iff_ne, Int.natCast_inj] at b2p
        refine aw_skip ?_
        refine then_n ?_
        refine aw_seq ?_
        refine aw_region_draw ?_
        refine rr_pure (rp rfl) rfl rfl rfl ?_
        refine rr_pure (r_quoN (a := m) (b := 10) rfl rfl rfl (by decide) (by omega)) rfl rfl rfl ?_
        refine rr_read (r_callF rfl rfl rfl (ih (m / 10) _ (by omega) (by omega))) rfl rfl rfl  ?_
        refine rr_pure (rp rfl) rfl rfl rfl ?_
        refine rr_pure (r_remN (a := m) (b := 10) rfl rfl rfl (by decide)) rfl rfl rfl ?_
        refine rr_pure (rp rfl) rfl rfl rfl ?_
        refine rr_pure (r_remN (a := m) (b := 10) rfl rfl rfl (by decide)) rfl rfl rfl ?_
        refine rr_pure (r_addn rfl rfl rfl ⟨by omega, by omega⟩) rfl rfl rfl ?_
        refine rr_pure (r_subB (l := D10) (g := m % 10) (h := m % 10 + 1) rfl rfl rfl rfl rfl (by omega) (by simp only [D10, List.length_cons, List.length_nil]; omega)) rfl rfl rfl ?_
        refine rr_pure (r_catB rfl rfl rfl (by have := itoa_long (m / 10) (by omega); simp only [List.length_take, List.length_drop]; omega)) rfl rfl rfl ?_
        refine rr_pure (rp rfl) rfl rfl rfl ?_
        refine rr_nil (by kernel_rfl) ?_
        refine then_n ?_
        refine aw_ret ?_
        exact fin_s rfl (by rw [dig (m % 10) (by omega), itoa_ge (m := m) (by omega)])
theorem c59 {K : List (Nat × Go.Obj)} [hK : Nonempty (KOk K)] (H : Heap) {n : Int} (h0 : 0 ≤ n) (h1 : n ≤ 2 ^ 62) : ACalls (cx K) 59 [aI n] H (Vs (bs (Lib.itoa n))) H := by
  obtain ⟨m, rfl⟩ := Int.eq_ofNat_of_zero_le h0
  exact c59d m m H (Nat.le_refl _) (by omega)
theorem itoa_lenI {n : Int} (h0 : 0 ≤ n) (h1 : n ≤ 2 ^ 62) : (Lib.itoa n).length ≤ 20 := by
  obtain ⟨m, rfl⟩ := Int.eq_ofNat_of_zero_le h0
  exact itoa_long m (by omega)
theorem seal_len (l : List UInt8) : (sealF l).length ≤ l.length + 7 := by
  have h := sumF_bd l
  have := itoa_len h.1 (by omega)
  simp only [sealF, List.length_append, List.length_cons]; omega
theorem c74 {K : List (Nat × Go.Obj)} [hK : Nonempty (KOk K)] (H : Heap) {l : List UInt8} (hl : l.length ≤ 2 ^ 42) : ACalls (cx K) 74 [aS (bs l)] H (Vs (bs (sealF l))) H := by
  have hb := sumF_bd l
  have hi := itoa_len hb.1 (by omega)
  refine acalls0 Tryd.func74 rfl rfl (fun S hS hw => ?_)
  refine aw_seq ?_
  refine aw_region ?_
  refine rr_pure (rp rfl) rfl rfl rfl ?_
  refine rr_nil rfl ?_
  refine then_n ?_
  refine aw_seq ?_
  refine aw_region ?_
  refine rr_pure (rp rfl) rfl rfl rfl ?_
  refine rr_pure (r_catB (b := [35]) rfl rfl rfl (by simp only [List.length_cons, List.length_nil]; omega)) rfl rfl rfl ?_
  refine rr_pure (rp rfl) rfl rfl rfl ?_
  refine rr_read (r_callF rfl rfl rfl (c82 _ (by omega))) rfl rfl rfl  ?_
  refine rr_read (r_callF rfl rfl rfl (c59 _ hb.1 (by omega))) rfl rfl rfl  ?_
  refine rr_pure (r_catB rfl rfl rfl (by (try simp only [List.length_append, List.length_cons, List.length_nil, List.length_take, List.length_drop]); omega)) rfl rfl rfl ?_
  refine rr_pure (rp rfl) rfl rfl rfl ?_
  refine rr_nil rfl ?_
  refine then_n ?_
  refine aw_ret ?_
  exact fin_s rfl (by simp [sealF])
theorem c61 {K : List (Nat × Go.Obj)} [hK : Nonempty (KOk K)] (H : Heap) {k : Int} {e : Rc} (h0 : 0 ≤ k) (h1 : k ≤ 2 ^ 62) (hq : e.q.length ≤ 2 ^ 40) (ha : e.a.length ≤ 2 ^ 40) : ACalls (cx K) 61 [aI k, aR e] H (Vs (bs (lineF k e))) H := by
  have hk := itoa_lenI h0 h1
  have hs := seal_len (Lib.itoa k ++ [32] ++ e.q ++ [64] ++ e.a)
  simp only [List.length_append, List.length_cons, List.length_nil] at hs
  refine acalls0 Tryd.func61 rfl rfl (fun S hS hw => ?_)
  refine aw_seq ?_
  refine aw_region ?_
  refine rr_memL (r_boxL rfl rfl) rfl rfl rfl ?_
  refine rr_pure (rp rfl) rfl rfl rfl ?_
  refine rr_nil rfl ?_
  refine then_n ?_
  refine aw_seq ?_
  refine aw_region_draw ?_
  refine rr_pure (rp rfl) rfl rfl rfl ?_
  refine rr_read (r_callF rfl rfl rfl (c59 _ h0 h1)) rfl rfl rfl  ?_
  refine rr_pure (r_catB (b := [32]) rfl rfl rfl (by simp only [List.length_cons, List.length_nil]; omega)) rfl rfl rfl ?_
  refine rr_pure (rp rfl) rfl rfl rfl ?_
  first
    | refine rr_read (r_loadL rfl rfl rfl rfl rfl) rfl rfl rfl ?_
    | refine rr_read (r_loadA rfl rfl rfl (Rd.at (by assumption) (by assumption)) rfl) rfl rfl rfl ?_
  refine rr_pure (r_catB rfl rfl rfl (by (try simp only [List.length_append, List.length_cons, List.length_nil, List.length_take, List.length_drop]); omega)) rfl rfl rfl ?_
  refine rr_pure (r_catB (b := [64]) rfl rfl rfl (by simp only [List.length_append, List.length_cons, List.length_nil]; omega)) rfl rfl rfl ?_
  refine rr_pure (rp rfl) rfl rfl rfl ?_
  first
    | refine rr_read (r_loadL rfl rfl rfl rfl rfl) rfl rfl rfl ?_
    | refine rr_read (r_loadA rfl rfl rfl (Rd.at (by assumption) (by assumption)) rfl) rfl rfl rfl ?_
  refine rr_pure (r_catB rfl rfl rfl (by (try simp only [List.length_append, List.length_cons, List.length_nil, List.length_take, List.length_drop]); omega)) rfl rfl rfl ?_
  refine rr_read (r_callF rfl rfl rfl (c74 _ (l := Lib.itoa k ++ [32] ++ e.q ++ [64] ++ e.a) (by simp only [List.length_append, List.length_cons, List.length_nil]; omega))) rfl rfl rfl  ?_
  refine rr_pure (r_catB (b := [10]) rfl rfl rfl (by simp only [List.length_cons, List.length_nil]; omega)) rfl rfl rfl ?_
  refine rr_pure (rp rfl) rfl rfl rfl ?_
  refine rr_nil (by kernel_rfl) ?_
  refine then_n ?_
  refine aw_ret ?_
  exact fin_s rfl (by simp [lineF])
noncomputable def appF (l : List UInt8) : Option (List UInt8) := if (decide (l.length ≤ 4000) && !l.contains 35) && decide ((sealF l).length ≤ 4000) then some (sealF l) else none
theorem appF_len {l : List UInt8} (h : 4000 < l.length) : appF l = none := by unfold appF; rw [if_neg]; simp; omega
theorem appF_has {l : List UInt8} (h : l.contains 35 = true) : appF l = none := by unfold appF; rw [if_neg]; rw [h]; simp
theorem appF_long {l : List UInt8} (h : 4000 < (sealF l).length) : appF l = none := by unfold appF; rw [if_neg]; simp only [Bool.and_eq_true, decide_eq_true_eq, not_and]; omega
theorem appF_ok {l : List UInt8} (h1 : l.length ≤ 4000) (h2 : l.contains 35 = false) (h3 : (sealF l).length ≤ 4000) : appF l = some (sealF l) := by unfold appF; rw [if_pos]; rw [h2, decide_eq_true h1, decide_eq_true h3]; rfl
abbrev apR (o : Option (List UInt8)) : AT := .tu [aS (bs (o.getD [])), aB o.isSome]
theorem c55 {K : List (Nat × Go.Obj)} [hK : Nonempty (KOk K)] (H : Heap) {l : List UInt8} (hl : l.length ≤ 2 ^ 42) : ACalls (cx K) 55 [aS (bs l)] H (apR (appF l)) H := by
  have hb := sumF_bd l
  have hi := itoa_len hb.1 (by omega)
  have hs : l ++ [35] ++ Lib.itoa (sumF l) = sealF l := by simp [sealF]
  refine acalls0 Tryd.func55 rfl rfl (fun S hS hw => ?_)
  refine aw_seq ?_
  refine aw_region ?_
  refine rr_pure (rp rfl) rfl rfl rfl ?_
  refine rr_pure (rp rfl) rfl rfl rfl ?_
  refine rr_nil rfl ?_
  refine then_n ?_
  refine aw_seq ?_
  refine aw_seq ?_
  refine aw_region ?_
  refine rr_pure (rp rfl) rfl rfl rfl ?_
  refine rr_pure (r_lenB rfl rfl rfl) rfl rfl rfl ?_
  refine rr_pure (rp rfl) rfl rfl rfl ?_
  refine rr_pure (rp rfl) rfl rfl rfl ?_
  refine rr_split rfl (fun g1 => ?_) (fun g1 => ?_)
  · have g1p := g1; try simp only [s_inj, bs_toList, nil_toList, bs_inj, u8_eq, UInt8.toNat_inj, decide_eq_true_eq, decide_eq_false_iff_not, Bool.not_eq_true', Bool.not_eq_false', bne_iff_ne, ne_eq, bne_eq_false_iff_eq, beq_iff_eq, beq_eq_false_iff_ne, Int.natCast_inj] at g1p
    refine rr_skip rfl rfl g1 ?_
    refine rr_skip rfl rfl g1 ?_
    refine rr_pure (r_pick_t rfl rfl g1 rfl) rfl rfl rfl ?_
    refine rr_nil rfl ?_
    refine then_n ?_
    refine aw_cond rfl (fun _ => ?_) (fun b2 => by first | cases b2 | (rw [b2] at b2; cases b2) | simp_all)
    refine aw_seq ?_
    refine aw_region ?_
    refine rr_pure (rp rfl) rfl rfl rfl ?_
    refine rr_pure (rp rfl) rfl rfl rfl ?_
    refine rr_nil rfl ?_
    refine then_n ?_
    refine aw_ret ?_
    refine then_r ?_
    exact fin_r (resA_tmp rfl (resA_tmp rfl resA_nil)) rfl (by rw [appF_len (by omega)]; rfl) rfl
  · have g1p := g1; try simp only [s_inj, bs_toList, nil_toList, bs_inj, u8_eq, UInt8.toNat_inj, decide_eq_true_eq, decide_eq_false_iff_not, Bool.not_eq_true', Bool.not_eq_false', bne_iff_ne, ne_eq, bne_eq_false_iff_eq, beq_iff_eq, beq_eq_false_iff_ne, Int.natCast_inj] at g1p
    refine rr_pure (rp rfl) rfl rfl g1 ?_
    refine rr_read (r_callF rfl rfl rfl (c68 _ (c := 35))) rfl rfl g1  ?_
    refine rr_pure (r_pick_f rfl rfl g1 rfl) rfl rfl rfl ?_
    refine rr_nil rfl ?_
    refine then_n ?_
    refine aw_cond rfl (fun b3 => ?_) (fun b3 => ?_)
    · have b3p := b3; try simp only [s_inj, bs_toList, nil_toList, bs_inj, u8_eq, UInt8.toNat_inj, decide_eq_true_eq, decide_eq_false_iff_not, Bool.not_eq_true', Bool.not_eq_false', bne_iff_ne, ne_eq, bne_eq_false_iff_eq, beq_iff_eq, beq_eq_false_iff_ne, Int.natCast_inj] at b3p
      refine aw_seq ?_
      refine aw_region ?_
      refine rr_pure (rp rfl) rfl rfl rfl ?_
      refine rr_pure (rp rfl) rfl rfl rfl ?_
      refine rr_nil rfl ?_
      refine then_n ?_
      refine aw_ret ?_
      refine then_r ?_
      exact fin_r (resA_tmp rfl (resA_tmp rfl resA_nil)) rfl (by rw [appF_has b3p]; rfl) rfl
    · have b3p := b3; try simp only [s_inj, bs_toList, nil_toList, bs_inj, u8_eq, UInt8.toNat_inj, decide_eq_true_eq, decide_eq_false_iff_not, Bool.not_eq_true', Bool.not_eq_false', bne_iff_ne, ne_eq, bne_eq_false_iff_eq, beq_iff_eq, beq_eq_false_iff_ne, Int.natCast_inj] at b3p
      refine aw_skip ?_
      refine then_n ?_
      refine aw_seq ?_
      refine aw_region ?_
      refine rr_pure (rp rfl) rfl rfl rfl ?_
      refine rr_pure (r_catB (b := [35]) rfl rfl rfl (by simp only [List.length_cons, List.length_nil]; omega)) rfl rfl rfl ?_
      refine rr_pure (rp rfl) rfl rfl rfl ?_
      refine rr_read (r_callF rfl rfl rfl (c69 _ (by omega))) rfl rfl rfl  ?_
      refine rr_read (r_callF rfl rfl rfl (c58 _ hb.1 (by omega))) rfl rfl rfl  ?_
      refine rr_pure (r_catB rfl rfl rfl (by (try simp only [List.length_append, List.length_cons, List.length_nil, List.length_take, List.length_drop]); omega)) rfl rfl rfl ?_
      refine rr_pure (rp rfl) rfl rfl rfl ?_
      refine rr_nil rfl ?_
      refine then_n ?_
      refine aw_seq ?_
      refine aw_seq ?_
      refine aw_region ?_
      refine rr_pure (rp rfl) rfl rfl rfl ?_
      refine rr_pure (r_lenB rfl rfl rfl) rfl rfl rfl ?_
      refine rr_pure (rp rfl) rfl rfl rfl ?_
      refine rr_nil rfl ?_
      refine then_n ?_
      refine aw_cond rfl (fun b4 => ?_) (fun b4 => ?_)
      · have b4p := b4; try simp only [s_inj, bs_toList, nil_toList, bs_inj, u8_eq, UInt8.toNat_inj, decide_eq_true_eq, decide_eq_false_iff_not, Bool.not_eq_true', Bool.not_eq_false', bne_iff_ne, ne_eq, bne_eq_false_iff_eq, beq_iff_eq, beq_eq_false_iff_ne, Int.natCast_inj] at b4p
        refine aw_seq ?_
        refine aw_region ?_
        refine rr_pure (rp rfl) rfl rfl rfl ?_
        refine rr_pure (rp rfl) rfl rfl rfl ?_
        refine rr_nil rfl ?_
        refine then_n ?_
        refine aw_ret ?_
        refine then_r ?_
        exact fin_r (resA_tmp rfl (resA_tmp rfl resA_nil)) rfl (by rw [appF_long (by rw [← hs]; omega)]; rfl) rfl
      · have b4p := b4; try simp only [s_inj, bs_toList, nil_toList, bs_inj, u8_eq, UInt8.toNat_inj, decide_eq_true_eq, decide_eq_false_iff_not, Bool.not_eq_true', Bool.not_eq_false', bne_iff_ne, ne_eq, bne_eq_false_iff_eq, beq_iff_eq, beq_eq_false_iff_ne, Int.natCast_inj] at b4p
        refine aw_skip ?_
        refine then_n ?_
        refine aw_seq ?_
        refine aw_region ?_
        refine rr_pure (rp rfl) rfl rfl rfl ?_
        refine rr_pure (rp rfl) rfl rfl rfl ?_
        refine rr_pure (rp rfl) rfl rfl rfl ?_
        refine rr_nil rfl ?_
        refine then_n ?_
        refine aw_ret ?_
        exact fin_r (resA_tmp rfl (resA_tmp rfl resA_nil)) rfl (by rw [appF_ok (by omega) (by simpa using b3p) (by rw [← hs]; omega), ← hs]; rfl) rfl
end Go.Proofs.YtfdopoijhjbamaaDoor
