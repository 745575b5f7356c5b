import Derived.Test.YtjjoigokeicneaaTD
namespace Go.Proofs.Ytjjoigokeicneaa
open Go.Aw
set_option maxRecDepth 100000
set_option maxHeartbeats 20000000
set_option linter.unusedSimpArgs false
set_option linter.unusedVariables false
theorem cond_same {w h w' h' : Int} {xs ys rs : List Int} : cond29 w h w' h' xs ys rs = cond27 w h w' h' xs ys rs := by
  rw [Bool.eq_iff_iff]
  simp only [cond27, cond29, asked, Bool.and_eq_true, beq_iff_eq]
  constructor
  · rintro ⟨⟨a, b⟩, _, c, d, e⟩; exact ⟨⟨⟨⟨a, c⟩, d.symm⟩, e.symm⟩, a, b⟩
  · rintro ⟨⟨⟨⟨a, c⟩, d⟩, e⟩, _, b⟩; exact ⟨⟨a, b⟩, a, c, d.symm, e.symm⟩
theorem sz_le {n : Nat} {left : Int} (h : ¬ szI n left < 0) (hl : left ≤ 1048576) : szI n left = left - n ∧ (n : Int) ≤ left := by
  unfold szI at h ⊢
  split at h
  · omega
  · rename_i h'; rw [if_neg h']; omega
theorem c11n (H : Heap) {k : Int} : ACalls cx 11 [.c .ns, aI k] H (Vi .i64 k) H := by
  refine acalls0 Try.func11 rfl rfl (fun S hS hw => ?_)
  refine aw_seq ?_
  refine aw_region ?_
  refine rr_pure (rp rfl) rfl rfl rfl ?_
  refine rr_nil rfl ?_
  refine then_n ?_
  refine aw_seq ?_
  refine aw_seq ?_
  refine aw_region ?_
  refine rr_pure (rp rfl) rfl rfl rfl ?_
  refine rr_nil rfl ?_
  refine then_n ?_
  refine aw_block ?_
  refine aw_loop (σ := Unit) (fun i => [(0, sC .ns), (1, sI k), (5, sI 0)]) (fun _ => _) (fun i => True) (fun i => 0) (()) trivial (by repeat (first | exact Sub.nil _ | refine Sub.cons rfl ?_)) rfl ?_
  intro i hi
  refine aw_seq ?_
  refine aw_seq ?_
  refine aw_region ?_
  refine rr_pure (rp rfl) rfl rfl rfl ?_
  refine rr_pure (rp rfl) rfl rfl rfl ?_
  first
    | refine rr_pure (rp rfl) rfl rfl rfl ?_
    | refine rr_pure (r_lenR rfl rfl rfl ⟨_, _, (rfl : Rd cx H 1 eI .ns [])⟩) rfl rfl rfl ?_
  refine rr_pure (rp rfl) rfl rfl rfl ?_
  refine rr_nil rfl ?_
  refine then_n ?_
  refine aw_cond rfl (fun b1 => ?_) (fun b1 => ?_)
  · have b1p := b1; try simp only [decide_eq_true_eq, decide_eq_false_iff_not, Bool.not_eq_true', Bool.not_eq_false', bne_iff_ne, ne_eq, bne_eq_false_iff_eq, beq_iff_eq, beq_eq_false_iff_ne, Int.natCast_inj] at b1p
    exfalso; simp at b1
  · have b1p := b1; try simp only [decide_eq_true_eq, decide_eq_false_iff_not, Bool.not_eq_true', Bool.not_eq_false', bne_iff_ne, ne_eq, bne_eq_false_iff_eq, beq_iff_eq, beq_eq_false_iff_ne, Int.natCast_inj] at b1p
    refine aw_exit ?_
    refine then_x ?_
    refine then_x ?_
    refine inb_e ?_
    refine then_n ?_
    refine aw_seq ?_
    refine aw_region ?_
    refine rr_pure (rp rfl) rfl rfl rfl ?_
    refine rr_pure (rp rfl) rfl rfl rfl ?_
    refine rr_nil rfl ?_
    refine then_n ?_
    refine aw_ret ?_
    exact fin_i rfl rfl
theorem c31n (H : Heap) {w h k : Int} : ACalls cx 31 [aF w h .ns, aI k] H (Vi .i64 k) H := by
  refine acalls0 Try.func31 rfl rfl (fun S hS hw => ?_)
  refine aw_seq ?_
  refine aw_region ?_
  refine rr_memL (r_boxL rfl rfl) rfl rfl rfl ?_
  refine rr_pure (rp rfl) rfl rfl rfl ?_
  refine rr_nil rfl ?_
  refine then_n ?_
  refine aw_seq ?_
  refine aw_region ?_
  refine rr_pure (rp rfl) rfl rfl rfl ?_
  first
    | refine rr_read (r_loadL rfl rfl rfl rfl rfl) rfl rfl rfl ?_
    | refine rr_read (r_loadA rfl rfl rfl (Rd.at (by assumption) (by assumption)) rfl) rfl rfl rfl ?_
  refine rr_pure (rp rfl) rfl rfl rfl ?_
  refine rr_read (r_callF rfl rfl rfl (c11n _)) rfl rfl rfl  ?_
  refine rr_pure (rp rfl) rfl rfl rfl ?_
  refine rr_nil rfl ?_
  refine then_n ?_
  refine aw_seq ?_
  refine aw_region ?_
  refine rr_pure (rp rfl) rfl rfl rfl ?_
  refine rr_pure (rp rfl) rfl rfl rfl ?_
  refine rr_nil rfl ?_
  refine then_n ?_
  refine aw_ret ?_
  exact fin_i rfl rfl
theorem c32n (H : Heap) {w h k : Int} (hk : 0 ≤ k ∧ k ≤ 2 ^ 50) : ACalls cx 32 [aF w h .ns, aI k] H (Vi .i64 k) H := by
  have := c32 H (w := w) (h := h) (v := .ns) (xs := []) (k := k) rfl (by simp) hk
  simpa [mk] using this
theorem c5f (H : Heap) {w h w' h' : Int} {v v' v'' : AC} {xs ys rs : List Int} (hr : Rd cx H 1 eI v xs) (hr' : Rd cx H 1 eI v' ys) (hr'' : Rd cx H 1 eI v'' rs) (hn : xs.length ≤ 2 ^ 44) (hn' : ys.length ≤ 2 ^ 44) (hn'' : rs.length ≤ 2 ^ 44) (hc : cond27 w h w' h' xs ys rs = false) :
    ACalls cx 5 [aF w h v, aF w' h' v', .c v''] H (Vb true) H := by
  refine acalls0 Try.func5 rfl rfl (fun S hS hw => ?_)
  refine aw_seq ?_
  refine aw_region ?_
  refine rr_memL (r_boxL rfl rfl) rfl rfl rfl ?_
  refine rr_memL (r_boxL rfl rfl) rfl rfl rfl ?_
  refine rr_pure (rp rfl) rfl rfl rfl ?_
  refine rr_nil rfl ?_
  refine then_n ?_
  refine aw_seq ?_
  refine aw_seq ?_
  refine aw_region ?_
  refine rr_pure (rp rfl) rfl rfl rfl ?_
  first
    | refine rr_pure (rp rfl) rfl rfl rfl ?_
    | refine rr_pure (r_lenR rfl rfl rfl ⟨_, _, hr''⟩) rfl rfl rfl ?_
  refine rr_pure (rp rfl) rfl rfl rfl ?_
  refine rr_nil rfl ?_
  refine then_n ?_
  refine aw_cond rfl (fun b1 => ?_) (fun b1 => ?_)
  · have b1p := b1; try simp only [decide_eq_true_eq, decide_eq_false_iff_not, Bool.not_eq_true', Bool.not_eq_false', bne_iff_ne, ne_eq, bne_eq_false_iff_eq, beq_iff_eq, beq_eq_false_iff_ne, Int.natCast_inj] at b1p
    refine aw_seq ?_
    refine aw_region ?_
    refine rr_pure (rp rfl) rfl rfl rfl ?_
    refine rr_nil rfl ?_
    refine then_n ?_
    refine aw_ret ?_
    refine then_r ?_
    first | exact fin_r rfl rfl rfl rfl | (exfalso; omega) | (exfalso; simp_all)
  · have b1p := b1; try simp only [decide_eq_true_eq, decide_eq_false_iff_not, Bool.not_eq_true', Bool.not_eq_false', bne_iff_ne, ne_eq, bne_eq_false_iff_eq, beq_iff_eq, beq_eq_false_iff_ne, Int.natCast_inj] at b1p
    refine aw_skip ?_
    refine then_n ?_
    refine aw_seq ?_
    refine aw_region ?_
    refine rr_pure (rp rfl) rfl rfl rfl ?_
    refine rr_nil rfl ?_
    refine then_n ?_
    refine aw_seq ?_
    refine aw_region ?_
    first
      | refine rr_read (r_loadL rfl rfl rfl rfl rfl) rfl rfl rfl ?_
      | refine rr_read (r_loadA rfl rfl rfl (Rd.at (by assumption) (by assumption)) rfl) rfl rfl rfl ?_
    refine rr_pure (rp rfl) rfl rfl rfl ?_
    refine rr_read (r_callF rfl rfl rfl (c26 _ ⟨_, _, hr⟩ (by omega) (by omega))) rfl rfl rfl  ?_
    refine rr_pure (rp rfl) rfl rfl rfl ?_
    refine rr_nil rfl ?_
    refine then_n ?_
    refine aw_seq ?_
    refine aw_seq ?_
    refine aw_region ?_
    refine rr_pure (rp rfl) rfl rfl rfl ?_
    refine rr_pure (rp rfl) rfl rfl rfl ?_
    refine rr_nil rfl ?_
    refine then_n ?_
    refine aw_cond rfl (fun b2 => ?_) (fun b2 => ?_)
    · have b2p := b2; try simp only [decide_eq_true_eq, decide_eq_false_iff_not, Bool.not_eq_true', Bool.not_eq_false', bne_iff_ne, ne_eq, bne_eq_false_iff_eq, beq_iff_eq, beq_eq_false_iff_ne, Int.natCast_inj] at b2p
      refine aw_seq ?_
      refine aw_region ?_
      refine rr_pure (rp rfl) rfl rfl rfl ?_
      refine rr_nil rfl ?_
      refine then_n ?_
      refine aw_ret ?_
      refine then_r ?_
      first | exact fin_r rfl rfl rfl rfl | (exfalso; omega) | (exfalso; simp_all)
    · have b2p := b2; try simp only [decide_eq_true_eq, decide_eq_false_iff_not, Bool.not_eq_true', Bool.not_eq_false', bne_iff_ne, ne_eq, bne_eq_false_iff_eq, beq_iff_eq, beq_eq_false_iff_ne, Int.natCast_inj] at b2p
      have hz1 := sz_le (left := 1048576) (n := xs.length) (by omega) (by omega)
      refine aw_skip ?_
      refine then_n ?_
      refine aw_seq ?_
      refine aw_region ?_
      first
        | refine rr_read (r_loadL rfl rfl rfl rfl rfl) rfl rfl rfl ?_
        | refine rr_read (r_loadA rfl rfl rfl (Rd.at (by assumption) (by assumption)) rfl) rfl rfl rfl ?_
      refine rr_pure (rp rfl) rfl rfl rfl ?_
      refine rr_read (r_callF rfl rfl rfl (c26 _ ⟨_, _, hr'⟩ (by omega) (by omega))) rfl rfl rfl  ?_
      refine rr_pure (rp rfl) rfl rfl rfl ?_
      refine rr_nil rfl ?_
      refine then_n ?_
      refine aw_seq ?_
      refine aw_seq ?_
      refine aw_region ?_
      refine rr_pure (rp rfl) rfl rfl rfl ?_
      refine rr_pure (rp rfl) rfl rfl rfl ?_
      refine rr_nil rfl ?_
      refine then_n ?_
      refine aw_cond rfl (fun b3 => ?_) (fun b3 => ?_)
      · have b3p := b3; try simp only [decide_eq_true_eq, decide_eq_false_iff_not, Bool.not_eq_true', Bool.not_eq_false', bne_iff_ne, ne_eq, bne_eq_false_iff_eq, beq_iff_eq, beq_eq_false_iff_ne, Int.natCast_inj] at b3p
        refine aw_seq ?_
        refine aw_region ?_
        refine rr_pure (rp rfl) rfl rfl rfl ?_
        refine rr_nil rfl ?_
        refine then_n ?_
        refine aw_ret ?_
        refine then_r ?_
        first | exact fin_r rfl rfl rfl rfl | (exfalso; omega) | (exfalso; simp_all)
      · have b3p := b3; try simp only [decide_eq_true_eq, decide_eq_false_iff_not, Bool.not_eq_true', Bool.not_eq_false', bne_iff_ne, ne_eq, bne_eq_false_iff_eq, beq_iff_eq, beq_eq_false_iff_ne, Int.natCast_inj] at b3p
        have hz2 := sz_le (n := ys.length) (left := szI xs.length 1048576) (by omega) (by omega)
        refine aw_skip ?_
        refine then_n ?_
        refine aw_seq ?_
        refine aw_region_draw ?_
        first
          | refine rr_read (r_loadL rfl rfl rfl rfl rfl) rfl rfl rfl ?_
          | refine rr_read (r_loadA rfl rfl rfl (Rd.at (by assumption) (by assumption)) rfl) rfl rfl rfl ?_
        refine rr_memL (r_callF rfl rfl rfl (c28 List.length_append (by first | exact hr.app | exact hr'.app) (by omega))) rfl rfl rfl  ?_
        first
          | refine rr_read (r_loadL rfl rfl rfl rfl rfl) rfl rfl rfl ?_
          | refine rr_read (r_loadA rfl rfl rfl (Rd.at (by assumption) (by assumption)) rfl) rfl rfl rfl ?_
        refine rr_memL (r_callF rfl rfl rfl (c28 List.length_append (by first | exact hr.app | exact hr'.app) (by omega))) rfl rfl rfl  ?_
        refine rr_pure (rp rfl) rfl rfl rfl ?_
        refine rr_memL (r_callF rfl rfl rfl (c8 List.length_append hr''.app (by omega))) rfl rfl rfl  ?_
        refine rr_read (r_callF rfl rfl rfl (c27f _ (Rd.own (j := 2) lI rfl rfl) (Rd.own (j := 3) lI rfl rfl) (Rd.own (j := 4) lI rfl rfl) (by omega) (by omega) (by omega) hc)) rfl rfl rfl  ?_
        refine rr_pure (rp rfl) rfl rfl rfl ?_
        refine rr_pure (rp rfl) rfl rfl rfl ?_
        refine rr_pure (rp rfl) rfl rfl rfl ?_
        refine rr_memL (r_allocL rfl rfl) rfl rfl rfl ?_
        refine rr_eff (r_storeL rfl rfl rfl rfl rfl rfl rfl (Nat.le_of_ble_eq_true rfl)) rfl rfl rfl (by simp) ?_
        refine rr_pure (rp rfl) rfl rfl rfl ?_
        refine rr_nil (by kernel_rfl) ?_
        refine then_n ?_
        refine aw_seq ?_
        refine aw_region ?_
        first
          | refine rr_read (r_loadL rfl rfl rfl rfl rfl) rfl rfl rfl ?_
          | refine rr_read (r_loadA rfl rfl rfl (Rd.at (by assumption) (by assumption)) rfl) rfl rfl rfl ?_
        refine rr_memL (r_callF rfl rfl rfl (c28 List.length_append (by first | exact hr.app | exact hr'.app) (by omega))) rfl rfl rfl  ?_
        refine rr_memL (r_allocL rfl rfl) rfl rfl rfl ?_
        refine rr_eff (r_storeL rfl rfl rfl rfl rfl rfl rfl (Nat.le_of_ble_eq_true rfl)) rfl rfl rfl (by simp) ?_
        refine rr_nil rfl ?_
        refine then_n ?_
        refine aw_seq ?_
        refine aw_region ?_
        first
          | refine rr_read (r_loadL rfl rfl rfl rfl rfl) rfl rfl rfl ?_
          | refine rr_read (r_loadA rfl rfl rfl (Rd.at (by assumption) (by assumption)) rfl) rfl rfl rfl ?_
        refine rr_memL (r_callF rfl rfl rfl (c28 List.length_append (by first | exact hr.app | exact hr'.app) (by omega))) rfl rfl rfl  ?_
        refine rr_memL (r_allocL rfl rfl) rfl rfl rfl ?_
        refine rr_eff (r_storeL rfl rfl rfl rfl rfl rfl rfl (Nat.le_of_ble_eq_true rfl)) rfl rfl rfl (by simp) ?_
        refine rr_nil rfl ?_
        refine then_n ?_
        refine aw_seq ?_
        refine aw_region ?_
        refine rr_pure (rp rfl) rfl rfl rfl ?_
        refine rr_memL (r_callF rfl rfl rfl (c8 List.length_append hr''.app (by omega))) rfl rfl rfl  ?_
        refine rr_pure (rp rfl) rfl rfl rfl ?_
        refine rr_nil rfl ?_
        refine then_n ?_
        refine aw_seq ?_
        refine aw_here [(2, sC v''), (3, pL (H.length + 0)), (4, pL (H.length + 1)), (8, pL (H.length + 5)), (9, some (Vb false)), (10, pL (H.length + 7)), (11, pL (H.length + 9)), (12, sC (.sl (.l (H.length + 10)) 0 rs.length rs.length true))] [some ⟨(aF w h v).cells, true, 0⟩, some ⟨(aF w' h' v').cells, true, 0⟩, bI xs, bI ys, bI rs, some ⟨(aF 0 0 .ns).cells, true, 0⟩, bI xs, some ⟨(aF w h (.sl (.l (H.length + 6)) 0 xs.length xs.length true)).cells, true, 0⟩, bI ys, some ⟨(aF w' h' (.sl (.l (H.length + 8)) 0 ys.length ys.length true)).cells, true, 0⟩, bI rs] (by repeat (first | exact Sub.nil _ | refine Sub.cons rfl ?_)) rfl ?_
        refine aw_region ?_
        first
          | refine rr_read (r_loadL rfl rfl rfl rfl rfl) rfl rfl rfl ?_
          | refine rr_read (r_loadA rfl rfl rfl (Rd.at (by assumption) (by assumption)) rfl) rfl rfl rfl ?_
        first
          | refine rr_read (r_loadL rfl rfl rfl rfl rfl) rfl rfl rfl ?_
          | refine rr_read (r_loadA rfl rfl rfl (Rd.at (by assumption) (by assumption)) rfl) rfl rfl rfl ?_
        refine rr_pure (rp rfl) rfl rfl rfl ?_
        refine rr_read (r_callF rfl rfl rfl (c29f _ (Rd.own (j := 6) lI rfl rfl) (Rd.own (j := 8) lI rfl rfl) (Rd.own (j := 10) lI rfl rfl) (by omega) (by omega) (by omega) (cond_same.trans hc))) rfl rfl rfl  ?_
        refine rr_pure (rp rfl) rfl rfl rfl ?_
        refine rr_pure (rp rfl) rfl rfl rfl ?_
        refine rr_pure (rp rfl) rfl rfl rfl ?_
        refine rr_memL (r_allocL rfl rfl) rfl rfl rfl ?_
        refine rr_eff (r_storeL rfl rfl rfl rfl rfl rfl rfl (Nat.le_of_ble_eq_true rfl)) rfl rfl rfl (by simp) ?_
        refine rr_pure (rp rfl) rfl rfl rfl ?_
        refine rr_nil rfl ?_
        refine then_n ?_
        refine aw_seq ?_
        refine aw_seq ?_
        refine aw_here [(2, sC v''), (3, pL (H.length + 0)), (4, pL (H.length + 1)), (8, pL (H.length + 5)), (9, some (Vb false)), (10, pL (H.length + 7)), (11, pL (H.length + 9)), (12, sC (.sl (.l (H.length + 10)) 0 rs.length rs.length true)), (13, pL (H.length + 11)), (14, some (Vb false))] [some ⟨(aF w h v).cells, true, 0⟩, some ⟨(aF w' h' v').cells, true, 0⟩, bI xs, bI ys, bI rs, some ⟨(aF 0 0 .ns).cells, true, 0⟩, bI xs, some ⟨(aF w h (.sl (.l (H.length + 6)) 0 xs.length xs.length true)).cells, true, 0⟩, bI ys, some ⟨(aF w' h' (.sl (.l (H.length + 8)) 0 ys.length ys.length true)).cells, true, 0⟩, bI rs, some ⟨(aF 0 0 .ns).cells, true, 0⟩] (by repeat (first | exact Sub.nil _ | refine Sub.cons rfl ?_)) rfl ?_
        refine aw_region ?_
        first
          | refine rr_read (r_loadL rfl rfl rfl rfl rfl) rfl rfl rfl ?_
          | refine rr_read (r_loadA rfl rfl rfl (Rd.at (by assumption) (by assumption)) rfl) rfl rfl rfl ?_
        first
          | refine rr_read (r_loadL rfl rfl rfl rfl rfl) rfl rfl rfl ?_
          | refine rr_read (r_loadA rfl rfl rfl (Rd.at (by assumption) (by assumption)) rfl) rfl rfl rfl ?_
        refine rr_read (r_callF rfl rfl rfl (c30 _ (xs := []) (ys := []) rfl rfl (by simp) (by simp))) rfl rfl rfl  ?_
        refine rr_pure (rp rfl) rfl rfl rfl ?_
        refine rr_pure (rp rfl) rfl rfl rfl ?_
        refine rr_split rfl (fun g4 => ?_) (fun g4 => ?_)
        · have g4p := g4; try simp only [decide_eq_true_eq, decide_eq_false_iff_not, Bool.not_eq_true', Bool.not_eq_false', bne_iff_ne, ne_eq, bne_eq_false_iff_eq, beq_iff_eq, beq_eq_false_iff_ne, Int.natCast_inj] at g4p
          refine rr_skip rfl rfl g4 ?_
          refine rr_skip rfl rfl g4 ?_
          refine rr_skip rfl rfl g4 ?_
          refine rr_pure (r_pick_t rfl rfl g4 rfl) rfl rfl rfl ?_
          refine rr_nil rfl ?_
          refine then_n ?_
          refine aw_cond rfl (fun _ => ?_) (fun b5 => by first | cases b5 | (rw [b5] at b5; cases b5) | simp_all)
          refine aw_seq ?_
          refine aw_region ?_
          refine rr_pure (rp rfl) rfl rfl rfl ?_
          refine rr_nil rfl ?_
          refine then_n ?_
          refine aw_ret ?_
          refine then_r ?_
          first | exact fin_r rfl rfl rfl rfl | (exfalso; omega) | (exfalso; simp_all)
        · have g4p := g4; try simp only [decide_eq_true_eq, decide_eq_false_iff_not, Bool.not_eq_true', Bool.not_eq_false', bne_iff_ne, ne_eq, bne_eq_false_iff_eq, beq_iff_eq, beq_eq_false_iff_ne, Int.natCast_inj] at g4p
          refine rr_pure (rp rfl) rfl rfl g4 ?_
          refine rr_pure (rp rfl) rfl rfl g4 ?_
          refine rr_pure (r_bbin (.inr rfl) rfl rfl rfl rfl) rfl rfl g4 ?_
          refine rr_pure (r_pick_f rfl rfl g4 rfl) rfl rfl rfl ?_
          refine rr_nil rfl ?_
          refine then_n ?_
          refine aw_cond rfl (fun b6 => ?_) (fun b6 => ?_)
          · have b6p := b6; try simp only [decide_eq_true_eq, decide_eq_false_iff_not, Bool.not_eq_true', Bool.not_eq_false', bne_iff_ne, ne_eq, bne_eq_false_iff_eq, beq_iff_eq, beq_eq_false_iff_ne, Int.natCast_inj] at b6p
            refine aw_seq ?_
            refine aw_region ?_
            refine rr_pure (rp rfl) rfl rfl rfl ?_
            refine rr_nil rfl ?_
            refine then_n ?_
            refine aw_ret ?_
            refine then_r ?_
            first | exact fin_r rfl rfl rfl rfl | (exfalso; omega) | (exfalso; simp_all)
          · have b6p := b6; try simp only [decide_eq_true_eq, decide_eq_false_iff_not, Bool.not_eq_true', Bool.not_eq_false', bne_iff_ne, ne_eq, bne_eq_false_iff_eq, beq_iff_eq, beq_eq_false_iff_ne, Int.natCast_inj] at b6p
            refine aw_skip ?_
            refine then_n ?_
            refine aw_seq ?_
            refine aw_seq ?_
            refine aw_here [(2, sC v''), (3, pL (H.length + 0)), (4, pL (H.length + 1)), (8, pL (H.length + 5)), (9, some (Vb false)), (10, pL (H.length + 7)), (11, pL (H.length + 9)), (12, sC (.sl (.l (H.length + 10)) 0 rs.length rs.length true)), (13, pL (H.length + 11)), (14, some (Vb false))] [some ⟨(aF w h v).cells, true, 0⟩, some ⟨(aF w' h' v').cells, true, 0⟩, bI xs, bI ys, bI rs, some ⟨(aF 0 0 .ns).cells, true, 0⟩, bI xs, some ⟨(aF w h (.sl (.l (H.length + 6)) 0 xs.length xs.length true)).cells, true, 0⟩, bI ys, some ⟨(aF w' h' (.sl (.l (H.length + 8)) 0 ys.length ys.length true)).cells, true, 0⟩, bI rs, some ⟨(aF 0 0 .ns).cells, true, 0⟩] (by repeat (first | exact Sub.nil _ | refine Sub.cons rfl ?_)) rfl ?_
            refine aw_region_draw ?_
            first
              | refine rr_read (r_loadL rfl rfl rfl rfl rfl) rfl rfl rfl ?_
              | refine rr_read (r_loadA rfl rfl rfl (Rd.at (by assumption) (by assumption)) rfl) rfl rfl rfl ?_
            first
              | refine rr_read (r_loadL rfl rfl rfl rfl rfl) rfl rfl rfl ?_
              | refine rr_read (r_loadA rfl rfl rfl (Rd.at (by assumption) (by assumption)) rfl) rfl rfl rfl ?_
            refine rr_memL (r_callF rfl rfl rfl (c28 List.length_append (by first | exact hr.app | exact hr'.app) (by omega))) rfl rfl rfl  ?_
            refine rr_read (r_callF rfl rfl rfl (c30 _  (Rd.own (j := 6) lI rfl rfl) (Rd.own (j := 12) lI rfl rfl) (by omega) (by omega))) rfl rfl rfl  ?_
            refine rr_pure (rp rfl) rfl rfl rfl ?_
            refine rr_nil (by kernel_rfl) ?_
            refine then_n ?_
            refine aw_cond rfl (fun b7 => ?_) (fun b7 => ?_)
            · have b7p := b7; try simp only [decide_eq_true_eq, decide_eq_false_iff_not, Bool.not_eq_true', Bool.not_eq_false', bne_iff_ne, ne_eq, bne_eq_false_iff_eq, beq_iff_eq, beq_eq_false_iff_ne, Int.natCast_inj] at b7p
              refine aw_seq ?_
              refine aw_region ?_
              refine rr_pure (rp rfl) rfl rfl rfl ?_
              refine rr_nil rfl ?_
              refine then_n ?_
              refine aw_ret ?_
              refine then_r ?_
              first | exact fin_r rfl rfl rfl rfl | (exfalso; omega) | (exfalso; simp_all)
            · have b7p := b7; try simp only [decide_eq_true_eq, decide_eq_false_iff_not, Bool.not_eq_true', Bool.not_eq_false', bne_iff_ne, ne_eq, bne_eq_false_iff_eq, beq_iff_eq, beq_eq_false_iff_ne, Int.natCast_inj] at b7p
              refine aw_skip ?_
              refine then_n ?_
              refine aw_seq ?_
              refine aw_seq ?_
              refine aw_here [(2, sC v''), (3, pL (H.length + 0)), (4, pL (H.length + 1)), (8, pL (H.length + 5)), (9, some (Vb false)), (10, pL (H.length + 7)), (11, pL (H.length + 9)), (12, sC (.sl (.l (H.length + 10)) 0 rs.length rs.length true)), (13, pL (H.length + 11)), (14, some (Vb false))] [some ⟨(aF w h v).cells, true, 0⟩, some ⟨(aF w' h' v').cells, true, 0⟩, bI xs, bI ys, bI rs, some ⟨(aF 0 0 .ns).cells, true, 0⟩, bI xs, some ⟨(aF w h (.sl (.l (H.length + 6)) 0 xs.length xs.length true)).cells, true, 0⟩, bI ys, some ⟨(aF w' h' (.sl (.l (H.length + 8)) 0 ys.length ys.length true)).cells, true, 0⟩, bI rs, some ⟨(aF 0 0 .ns).cells, true, 0⟩, bI xs] (by repeat (first | exact Sub.nil _ | refine Sub.cons rfl ?_)) rfl ?_
              refine aw_region_draw ?_
              first
                | refine rr_read (r_loadL rfl rfl rfl rfl rfl) rfl rfl rfl ?_
                | refine rr_read (r_loadA rfl rfl rfl (Rd.at (by assumption) (by assumption)) rfl) rfl rfl rfl ?_
              first
                | refine rr_read (r_loadL rfl rfl rfl rfl rfl) rfl rfl rfl ?_
                | refine rr_read (r_loadA rfl rfl rfl (Rd.at (by assumption) (by assumption)) rfl) rfl rfl rfl ?_
              refine rr_memL (r_callF rfl rfl rfl (c28 List.length_append (by first | exact hr.app | exact hr'.app) (by omega))) rfl rfl rfl  ?_
              refine rr_read (r_callF rfl rfl rfl (c30 _  (Rd.own (j := 8) lI rfl rfl) (Rd.own (j := 13) lI rfl rfl) (by omega) (by omega))) rfl rfl rfl  ?_
              refine rr_pure (rp rfl) rfl rfl rfl ?_
              refine rr_nil (by kernel_rfl) ?_
              refine then_n ?_
              refine aw_cond rfl (fun b8 => ?_) (fun b8 => ?_)
              · have b8p := b8; try simp only [decide_eq_true_eq, decide_eq_false_iff_not, Bool.not_eq_true', Bool.not_eq_false', bne_iff_ne, ne_eq, bne_eq_false_iff_eq, beq_iff_eq, beq_eq_false_iff_ne, Int.natCast_inj] at b8p
                refine aw_seq ?_
                refine aw_region ?_
                refine rr_pure (rp rfl) rfl rfl rfl ?_
                refine rr_nil rfl ?_
                refine then_n ?_
                refine aw_ret ?_
                refine then_r ?_
                first | exact fin_r rfl rfl rfl rfl | (exfalso; omega) | (exfalso; simp_all)
              · have b8p := b8; try simp only [decide_eq_true_eq, decide_eq_false_iff_not, Bool.not_eq_true', Bool.not_eq_false', bne_iff_ne, ne_eq, bne_eq_false_iff_eq, beq_iff_eq, beq_eq_false_iff_ne, Int.natCast_inj] at b8p
                refine aw_skip ?_
                refine then_n ?_
                refine aw_seq ?_
                refine aw_seq ?_
                refine aw_here [(2, sC v''), (3, pL (H.length + 0)), (4, pL (H.length + 1)), (8, pL (H.length + 5)), (9, some (Vb false)), (10, pL (H.length + 7)), (11, pL (H.length + 9)), (12, sC (.sl (.l (H.length + 10)) 0 rs.length rs.length true)), (13, pL (H.length + 11)), (14, some (Vb false))] [some ⟨(aF w h v).cells, true, 0⟩, some ⟨(aF w' h' v').cells, true, 0⟩, bI xs, bI ys, bI rs, some ⟨(aF 0 0 .ns).cells, true, 0⟩, bI xs, some ⟨(aF w h (.sl (.l (H.length + 6)) 0 xs.length xs.length true)).cells, true, 0⟩, bI ys, some ⟨(aF w' h' (.sl (.l (H.length + 8)) 0 ys.length ys.length true)).cells, true, 0⟩, bI rs, some ⟨(aF 0 0 .ns).cells, true, 0⟩, bI xs, bI ys] (by repeat (first | exact Sub.nil _ | refine Sub.cons rfl ?_)) rfl ?_
                refine aw_region ?_
                refine rr_pure (rp rfl) rfl rfl rfl ?_
                refine rr_pure (rp rfl) rfl rfl rfl ?_
                refine rr_memL (r_callF rfl rfl rfl (c8 List.length_append hr''.app (by omega))) rfl rfl rfl  ?_
                refine rr_read (r_callF rfl rfl rfl (c10 _  (Rd.own (j := 10) lI rfl rfl) (Rd.own (j := 14) lI rfl rfl) (by omega) (by omega))) rfl rfl rfl  ?_
                refine rr_pure (rp rfl) rfl rfl rfl ?_
                refine rr_nil rfl ?_
                refine then_n ?_
                refine aw_cond rfl (fun b9 => ?_) (fun b9 => ?_)
                · have b9p := b9; try simp only [decide_eq_true_eq, decide_eq_false_iff_not, Bool.not_eq_true', Bool.not_eq_false', bne_iff_ne, ne_eq, bne_eq_false_iff_eq, beq_iff_eq, beq_eq_false_iff_ne, Int.natCast_inj] at b9p
                  refine aw_seq ?_
                  refine aw_region ?_
                  refine rr_pure (rp rfl) rfl rfl rfl ?_
                  refine rr_nil rfl ?_
                  refine then_n ?_
                  refine aw_ret ?_
                  refine then_r ?_
                  first | exact fin_r rfl rfl rfl rfl | (exfalso; omega) | (exfalso; simp_all)
                · have b9p := b9; try simp only [decide_eq_true_eq, decide_eq_false_iff_not, Bool.not_eq_true', Bool.not_eq_false', bne_iff_ne, ne_eq, bne_eq_false_iff_eq, beq_iff_eq, beq_eq_false_iff_ne, Int.natCast_inj] at b9p
                  refine aw_skip ?_
                  refine then_n ?_
                  refine aw_seq ?_
                  refine aw_here [(2, sC v''), (3, pL (H.length + 0)), (4, pL (H.length + 1)), (8, pL (H.length + 5)), (9, some (Vb false)), (10, pL (H.length + 7)), (11, pL (H.length + 9)), (12, sC (.sl (.l (H.length + 10)) 0 rs.length rs.length true)), (13, pL (H.length + 11)), (14, some (Vb false))] [some ⟨(aF w h v).cells, true, 0⟩, some ⟨(aF w' h' v').cells, true, 0⟩, bI xs, bI ys, bI rs, some ⟨(aF 0 0 .ns).cells, true, 0⟩, bI xs, some ⟨(aF w h (.sl (.l (H.length + 6)) 0 xs.length xs.length true)).cells, true, 0⟩, bI ys, some ⟨(aF w' h' (.sl (.l (H.length + 8)) 0 ys.length ys.length true)).cells, true, 0⟩, bI rs, some ⟨(aF 0 0 .ns).cells, true, 0⟩, bI xs, bI ys, bI rs] (by repeat (first | exact Sub.nil _ | refine Sub.cons rfl ?_)) rfl ?_
                  refine aw_region ?_
                  refine rr_pure (rp rfl) rfl rfl rfl ?_
                  refine rr_nil rfl ?_
                  refine then_n ?_
                  refine aw_seq ?_
                  refine aw_region ?_
                  first
                    | refine rr_read (r_loadL rfl rfl rfl rfl rfl) rfl rfl rfl ?_
                    | refine rr_read (r_loadA rfl rfl rfl (Rd.at (by assumption) (by assumption)) rfl) rfl rfl rfl ?_
                  refine rr_pure (rp rfl) rfl rfl rfl ?_
                  refine rr_eff (r_callF rfl rfl rfl (c31 (j := 6) rfl rfl (by omega) (by omega))) rfl rfl rfl (by simp) ?_
                  refine rr_pure (rp rfl) rfl rfl rfl ?_
                  refine rr_nil rfl ?_
                  refine then_n ?_
                  refine aw_seq ?_
                  refine aw_region ?_
                  first
                    | refine rr_read (r_loadL rfl rfl rfl rfl rfl) rfl rfl rfl ?_
                    | refine rr_read (r_loadA rfl rfl rfl (Rd.at (by assumption) (by assumption)) rfl) rfl rfl rfl ?_
                  refine rr_pure (rp rfl) rfl rfl rfl ?_
                  refine rr_eff (r_callF rfl rfl rfl (c31 (j := 8) rfl rfl (by omega) (by omega))) rfl rfl rfl (by simp) ?_
                  refine rr_pure (rp rfl) rfl rfl rfl ?_
                  refine rr_nil rfl ?_
                  refine then_n ?_
                  refine aw_seq ?_
                  refine aw_region ?_
                  refine rr_pure (rp rfl) rfl rfl rfl ?_
                  refine rr_pure (rp rfl) rfl rfl rfl ?_
                  refine rr_eff (r_callF rfl rfl rfl (c11 (j := 10) rfl rfl (by omega) (by omega))) rfl rfl rfl (by simp) ?_
                  refine rr_pure (rp rfl) rfl rfl rfl ?_
                  refine rr_nil rfl ?_
                  refine then_n ?_
                  refine aw_seq ?_
                  refine aw_seq ?_
                  refine aw_here [(2, sC v''), (3, pL (H.length + 0)), (4, pL (H.length + 1)), (8, pL (H.length + 5)), (9, some (Vb false)), (10, pL (H.length + 7)), (11, pL (H.length + 9)), (12, sC (.sl (.l (H.length + 10)) 0 rs.length rs.length true)), (13, pL (H.length + 11)), (14, some (Vb false)), (15, sI (1 + xs.length + ys.length + rs.length))] [some ⟨(aF w h v).cells, true, 0⟩, some ⟨(aF w' h' v').cells, true, 0⟩, bI xs, bI ys, bI rs, some ⟨(aF 0 0 .ns).cells, true, 0⟩, bI (mk 1 xs.length), some ⟨(aF w h (.sl (.l (H.length + 6)) 0 xs.length xs.length true)).cells, true, 0⟩, bI (mk (1 + xs.length) ys.length), some ⟨(aF w' h' (.sl (.l (H.length + 8)) 0 ys.length ys.length true)).cells, true, 0⟩, bI (mk (1 + xs.length + ys.length) rs.length), some ⟨(aF 0 0 .ns).cells, true, 0⟩, bI xs, bI ys, bI rs] (by repeat (first | exact Sub.nil _ | refine Sub.cons rfl ?_)) rfl ?_
                  refine aw_region ?_
                  refine rr_pure (rp rfl) rfl rfl rfl ?_
                  refine rr_pure (rp rfl) rfl rfl rfl ?_
                  refine rr_pure (rp rfl) rfl rfl rfl ?_
                  refine rr_split rfl (fun g10 => ?_) (fun g10 => ?_)
                  · have g10p := g10; try simp only [decide_eq_true_eq, decide_eq_false_iff_not, Bool.not_eq_true', Bool.not_eq_false', bne_iff_ne, ne_eq, bne_eq_false_iff_eq, beq_iff_eq, beq_eq_false_iff_ne, Int.natCast_inj] at g10p
                    refine rr_skip rfl rfl g10 ?_
                    refine rr_skip rfl rfl g10 ?_
                    refine rr_skip rfl rfl g10 ?_
                    refine rr_skip rfl rfl g10 ?_
                    refine rr_pure (r_pick_t rfl rfl g10 rfl) rfl rfl rfl ?_
                    refine rr_pure (rp rfl) rfl rfl rfl ?_
                    refine rr_skip rfl rfl rfl ?_
                    refine rr_skip rfl rfl rfl ?_
                    refine rr_skip rfl rfl rfl ?_
                    refine rr_pure (r_pick_t rfl rfl rfl rfl) rfl rfl rfl ?_
                    refine rr_nil rfl ?_
                    refine then_n ?_
                    refine aw_cond rfl (fun _ => ?_) (fun b11 => by first | cases b11 | (rw [b11] at b11; cases b11) | simp_all)
                    refine aw_seq ?_
                    refine aw_region ?_
                    refine rr_pure (rp rfl) rfl rfl rfl ?_
                    refine rr_nil rfl ?_
                    refine then_n ?_
                    refine aw_ret ?_
                    refine then_r ?_
                    first | exact fin_r rfl rfl rfl rfl | (exfalso; omega) | (exfalso; simp_all)
                  · have g10p := g10; try simp only [decide_eq_true_eq, decide_eq_false_iff_not, Bool.not_eq_true', Bool.not_eq_false', bne_iff_ne, ne_eq, bne_eq_false_iff_eq, beq_iff_eq, beq_eq_false_iff_ne, Int.natCast_inj] at g10p
                    first
                      | refine rr_read (r_loadL rfl rfl rfl rfl rfl) rfl rfl g10 ?_
                      | refine rr_read (r_loadA rfl rfl rfl (Rd.at (by assumption) (by assumption)) rfl) rfl rfl g10 ?_
                    first
                      | refine rr_read (r_loadL rfl rfl rfl rfl rfl) rfl rfl g10 ?_
                      | refine rr_read (r_loadA rfl rfl rfl (Rd.at (by assumption) (by assumption)) rfl) rfl rfl g10 ?_
                    refine rr_read (r_callF rfl rfl rfl (c30 _ (xs := []) (ys := []) rfl rfl (by simp) (by simp))) rfl rfl g10  ?_
                    refine rr_pure (rp rfl) rfl rfl g10 ?_
                    refine rr_pure (r_pick_f rfl rfl g10 rfl) rfl rfl rfl ?_
                    refine rr_pure (rp rfl) rfl rfl rfl ?_
                    refine rr_split rfl (fun g12 => ?_) (fun g12 => ?_)
                    · have g12p := g12; try simp only [decide_eq_true_eq, decide_eq_false_iff_not, Bool.not_eq_true', Bool.not_eq_false', bne_iff_ne, ne_eq, bne_eq_false_iff_eq, beq_iff_eq, beq_eq_false_iff_ne, Int.natCast_inj] at g12p
                      refine rr_skip rfl rfl g12 ?_
                      refine rr_skip rfl rfl g12 ?_
                      refine rr_skip rfl rfl g12 ?_
                      refine rr_pure (r_pick_t rfl rfl g12 rfl) rfl rfl rfl ?_
                      refine rr_nil rfl ?_
                      refine then_n ?_
                      refine aw_cond rfl (fun _ => ?_) (fun b13 => by first | cases b13 | (rw [b13] at b13; cases b13) | simp_all)
                      refine aw_seq ?_
                      refine aw_region ?_
                      refine rr_pure (rp rfl) rfl rfl rfl ?_
                      refine rr_nil rfl ?_
                      refine then_n ?_
                      refine aw_ret ?_
                      refine then_r ?_
                      first | exact fin_r rfl rfl rfl rfl | (exfalso; omega) | (exfalso; simp_all)
                    · have g12p := g12; try simp only [decide_eq_true_eq, decide_eq_false_iff_not, Bool.not_eq_true', Bool.not_eq_false', bne_iff_ne, ne_eq, bne_eq_false_iff_eq, beq_iff_eq, beq_eq_false_iff_ne, Int.natCast_inj] at g12p
                      refine rr_pure (rp rfl) rfl rfl g12 ?_
                      refine rr_pure (rp rfl) rfl rfl g12 ?_
                      refine rr_pure (r_bbin (.inr rfl) rfl rfl rfl rfl) rfl rfl g12 ?_
                      refine rr_pure (r_pick_f rfl rfl g12 rfl) rfl rfl rfl ?_
                      refine rr_nil rfl ?_
                      refine then_n ?_
                      refine aw_cond rfl (fun b14 => ?_) (fun b14 => ?_)
                      · have b14p := b14; try simp only [decide_eq_true_eq, decide_eq_false_iff_not, Bool.not_eq_true', Bool.not_eq_false', bne_iff_ne, ne_eq, bne_eq_false_iff_eq, beq_iff_eq, beq_eq_false_iff_ne, Int.natCast_inj] at b14p
                        refine aw_seq ?_
                        refine aw_region ?_
                        refine rr_pure (rp rfl) rfl rfl rfl ?_
                        refine rr_nil rfl ?_
                        refine then_n ?_
                        refine aw_ret ?_
                        refine then_r ?_
                        first | exact fin_r rfl rfl rfl rfl | (exfalso; omega) | (exfalso; simp_all)
                      · have b14p := b14; try simp only [decide_eq_true_eq, decide_eq_false_iff_not, Bool.not_eq_true', Bool.not_eq_false', bne_iff_ne, ne_eq, bne_eq_false_iff_eq, beq_iff_eq, beq_eq_false_iff_ne, Int.natCast_inj] at b14p
                        refine aw_skip ?_
                        refine then_n ?_
                        refine aw_seq ?_
                        refine aw_here [(2, sC v''), (3, pL (H.length + 0)), (4, pL (H.length + 1)), (8, pL (H.length + 5)), (9, some (Vb false)), (10, pL (H.length + 7)), (11, pL (H.length + 9)), (12, sC (.sl (.l (H.length + 10)) 0 rs.length rs.length true)), (13, pL (H.length + 11)), (14, some (Vb false))] [some ⟨(aF w h v).cells, true, 0⟩, some ⟨(aF w' h' v').cells, true, 0⟩, bI xs, bI ys, bI rs, some ⟨(aF 0 0 .ns).cells, true, 0⟩, bI (mk 1 xs.length), some ⟨(aF w h (.sl (.l (H.length + 6)) 0 xs.length xs.length true)).cells, true, 0⟩, bI (mk (1 + xs.length) ys.length), some ⟨(aF w' h' (.sl (.l (H.length + 8)) 0 ys.length ys.length true)).cells, true, 0⟩, bI (mk (1 + xs.length + ys.length) rs.length), some ⟨(aF 0 0 .ns).cells, true, 0⟩, bI xs, bI ys, bI rs] (by repeat (first | exact Sub.nil _ | refine Sub.cons rfl ?_)) rfl ?_
                        refine aw_region ?_
                        refine rr_pure (rp rfl) rfl rfl rfl ?_
                        refine rr_nil rfl ?_
                        refine then_n ?_
                        refine aw_seq ?_
                        refine aw_region ?_
                        first
                          | refine rr_read (r_loadL rfl rfl rfl rfl rfl) rfl rfl rfl ?_
                          | refine rr_read (r_loadA rfl rfl rfl (Rd.at (by assumption) (by assumption)) rfl) rfl rfl rfl ?_
                        refine rr_pure (rp rfl) rfl rfl rfl ?_
                        refine rr_read (r_callF rfl rfl rfl (c31n _)) rfl rfl rfl  ?_
                        refine rr_pure (rp rfl) rfl rfl rfl ?_
                        refine rr_nil rfl ?_
                        refine then_n ?_
                        refine aw_seq ?_
                        refine aw_region ?_
                        refine rr_pure (rp rfl) rfl rfl rfl ?_
                        refine rr_nil rfl ?_
                        refine then_n ?_
                        refine aw_seq ?_
                        refine aw_region ?_
                        first
                          | refine rr_read (r_loadL rfl rfl rfl rfl rfl) rfl rfl rfl ?_
                          | refine rr_read (r_loadA rfl rfl rfl (Rd.at (by assumption) (by assumption)) rfl) rfl rfl rfl ?_
                        refine rr_pure (rp rfl) rfl rfl rfl ?_
                        refine rr_read (r_callF rfl rfl rfl (c32n _ (by omega))) rfl rfl rfl  ?_
                        refine rr_pure (rp rfl) rfl rfl rfl ?_
                        refine rr_nil rfl ?_
                        refine then_n ?_
                        refine aw_seq ?_
                        refine aw_seq ?_
                        refine aw_region ?_
                        refine rr_pure (rp rfl) rfl rfl rfl ?_
                        refine rr_pure (rp rfl) rfl rfl rfl ?_
                        refine rr_nil rfl ?_
                        refine then_n ?_
                        refine aw_cond rfl (fun b15 => ?_) (fun b15 => ?_)
                        · have b15p := b15; try simp only [decide_eq_true_eq, decide_eq_false_iff_not, Bool.not_eq_true', Bool.not_eq_false', bne_iff_ne, ne_eq, bne_eq_false_iff_eq, beq_iff_eq, beq_eq_false_iff_ne, Int.natCast_inj] at b15p
                          refine aw_seq ?_
                          refine aw_region ?_
                          refine rr_pure (rp rfl) rfl rfl rfl ?_
                          refine rr_nil rfl ?_
                          refine then_n ?_
                          refine aw_ret ?_
                          refine then_r ?_
                          first | exact fin_r rfl rfl rfl rfl | (exfalso; omega) | (exfalso; simp_all)
                        · have b15p := b15; try simp only [decide_eq_true_eq, decide_eq_false_iff_not, Bool.not_eq_true', Bool.not_eq_false', bne_iff_ne, ne_eq, bne_eq_false_iff_eq, beq_iff_eq, beq_eq_false_iff_ne, Int.natCast_inj] at b15p
                          refine aw_skip ?_
                          refine then_n ?_
                          refine aw_seq ?_
                          refine aw_seq ?_
                          refine aw_here [(2, sC v''), (3, pL (H.length + 0)), (4, pL (H.length + 1)), (8, pL (H.length + 5)), (9, some (Vb false)), (10, pL (H.length + 7)), (11, pL (H.length + 9)), (12, sC (.sl (.l (H.length + 10)) 0 rs.length rs.length true)), (13, pL (H.length + 11)), (14, some (Vb false)), (16, sI 1), (17, sI 1)] [some ⟨(aF w h v).cells, true, 0⟩, some ⟨(aF w' h' v').cells, true, 0⟩, bI xs, bI ys, bI rs, some ⟨(aF 0 0 .ns).cells, true, 0⟩, bI (mk 1 xs.length), some ⟨(aF w h (.sl (.l (H.length + 6)) 0 xs.length xs.length true)).cells, true, 0⟩, bI (mk (1 + xs.length) ys.length), some ⟨(aF w' h' (.sl (.l (H.length + 8)) 0 ys.length ys.length true)).cells, true, 0⟩, bI (mk (1 + xs.length + ys.length) rs.length), some ⟨(aF 0 0 .ns).cells, true, 0⟩, bI xs, bI ys, bI rs] (by repeat (first | exact Sub.nil _ | refine Sub.cons rfl ?_)) rfl ?_
                          refine aw_region ?_
                          refine rr_pure (rp rfl) rfl rfl rfl ?_
                          refine rr_pure (rp rfl) rfl rfl rfl ?_
                          refine rr_pure (rp rfl) rfl rfl rfl ?_
                          refine rr_nil rfl ?_
                          refine then_n ?_
                          refine aw_cond rfl (fun b16 => ?_) (fun b16 => ?_)
                          · have b16p := b16; try simp only [decide_eq_true_eq, decide_eq_false_iff_not, Bool.not_eq_true', Bool.not_eq_false', bne_iff_ne, ne_eq, bne_eq_false_iff_eq, beq_iff_eq, beq_eq_false_iff_ne, Int.natCast_inj] at b16p
                            refine aw_seq ?_
                            refine aw_region ?_
                            refine rr_pure (rp rfl) rfl rfl rfl ?_
                            refine rr_nil rfl ?_
                            refine then_n ?_
                            refine aw_ret ?_
                            refine then_r ?_
                            first | exact fin_r rfl rfl rfl rfl | (exfalso; omega) | (exfalso; simp_all)
                          · have b16p := b16; try simp only [decide_eq_true_eq, decide_eq_false_iff_not, Bool.not_eq_true', Bool.not_eq_false', bne_iff_ne, ne_eq, bne_eq_false_iff_eq, beq_iff_eq, beq_eq_false_iff_ne, Int.natCast_inj] at b16p
                            refine aw_skip ?_
                            refine then_n ?_
                            refine aw_seq ?_
                            refine aw_here [(2, sC v''), (3, pL (H.length + 0)), (4, pL (H.length + 1)), (8, pL (H.length + 5)), (9, some (Vb false)), (10, pL (H.length + 7)), (11, pL (H.length + 9)), (12, sC (.sl (.l (H.length + 10)) 0 rs.length rs.length true)), (13, pL (H.length + 11)), (14, some (Vb false)), (16, sI 1), (17, sI 1)] [some ⟨(aF w h v).cells, true, 0⟩, some ⟨(aF w' h' v').cells, true, 0⟩, bI xs, bI ys, bI rs, some ⟨(aF 0 0 .ns).cells, true, 0⟩, bI (mk 1 xs.length), some ⟨(aF w h (.sl (.l (H.length + 6)) 0 xs.length xs.length true)).cells, true, 0⟩, bI (mk (1 + xs.length) ys.length), some ⟨(aF w' h' (.sl (.l (H.length + 8)) 0 ys.length ys.length true)).cells, true, 0⟩, bI (mk (1 + xs.length + ys.length) rs.length), some ⟨(aF 0 0 .ns).cells, true, 0⟩, bI xs, bI ys, bI rs] (by repeat (first | exact Sub.nil _ | refine Sub.cons rfl ?_)) rfl ?_
                            refine aw_region_draw ?_
                            first
                              | refine rr_read (r_loadL rfl rfl rfl rfl rfl) rfl rfl rfl ?_
                              | refine rr_read (r_loadA rfl rfl rfl (Rd.at (by assumption) (by assumption)) rfl) rfl rfl rfl ?_
                            refine rr_memL (r_callF rfl rfl rfl (c28 List.length_append (by first | exact hr.app | exact hr'.app) (by omega))) rfl rfl rfl  ?_
                            first
                              | refine rr_read (r_loadL rfl rfl rfl rfl rfl) rfl rfl rfl ?_
                              | refine rr_read (r_loadA rfl rfl rfl (Rd.at (by assumption) (by assumption)) rfl) rfl rfl rfl ?_
                            refine rr_memL (r_callF rfl rfl rfl (c28 List.length_append (by first | exact hr.app | exact hr'.app) (by omega))) rfl rfl rfl  ?_
                            refine rr_pure (rp rfl) rfl rfl rfl ?_
                            refine rr_memL (r_callF rfl rfl rfl (c8 List.length_append hr''.app (by omega))) rfl rfl rfl  ?_
                            refine rr_read (r_callF rfl rfl rfl (c29f _ (Rd.own (j := 15) lI rfl rfl) (Rd.own (j := 16) lI rfl rfl) (Rd.own (j := 17) lI rfl rfl) (by omega) (by omega) (by omega) (cond_same.trans hc))) rfl rfl rfl  ?_
                            refine rr_pure (rp rfl) rfl rfl rfl ?_
                            refine rr_pure (rp rfl) rfl rfl rfl ?_
                            refine rr_pure (rp rfl) rfl rfl rfl ?_
                            refine rr_memL (r_allocL rfl rfl) rfl rfl rfl ?_
                            refine rr_eff (r_storeL rfl rfl rfl rfl rfl rfl rfl (Nat.le_of_ble_eq_true rfl)) rfl rfl rfl (by simp) ?_
                            refine rr_pure (rp rfl) rfl rfl rfl ?_
                            refine rr_nil (by kernel_rfl) ?_
                            refine then_n ?_
                            refine aw_seq ?_
                            refine aw_seq ?_
                            refine aw_here [(2, sC v''), (3, pL (H.length + 0)), (4, pL (H.length + 1)), (8, pL (H.length + 5)), (9, some (Vb false)), (10, pL (H.length + 7)), (11, pL (H.length + 9)), (12, sC (.sl (.l (H.length + 10)) 0 rs.length rs.length true)), (13, pL (H.length + 11)), (14, some (Vb false)), (16, sI 1), (17, sI 1), (18, pL (H.length + 18)), (19, some (Vb false))] [some ⟨(aF w h v).cells, true, 0⟩, some ⟨(aF w' h' v').cells, true, 0⟩, bI xs, bI ys, bI rs, some ⟨(aF 0 0 .ns).cells, true, 0⟩, bI (mk 1 xs.length), some ⟨(aF w h (.sl (.l (H.length + 6)) 0 xs.length xs.length true)).cells, true, 0⟩, bI (mk (1 + xs.length) ys.length), some ⟨(aF w' h' (.sl (.l (H.length + 8)) 0 ys.length ys.length true)).cells, true, 0⟩, bI (mk (1 + xs.length + ys.length) rs.length), some ⟨(aF 0 0 .ns).cells, true, 0⟩, bI xs, bI ys, bI rs, bI xs, bI ys, bI rs, some ⟨(aF 0 0 .ns).cells, true, 0⟩] (by repeat (first | exact Sub.nil _ | refine Sub.cons rfl ?_)) rfl ?_
                            refine aw_region ?_
                            first
                              | refine rr_read (r_loadL rfl rfl rfl rfl rfl) rfl rfl rfl ?_
                              | refine rr_read (r_loadA rfl rfl rfl (Rd.at (by assumption) (by assumption)) rfl) rfl rfl rfl ?_
                            first
                              | refine rr_read (r_loadL rfl rfl rfl rfl rfl) rfl rfl rfl ?_
                              | refine rr_read (r_loadA rfl rfl rfl (Rd.at (by assumption) (by assumption)) rfl) rfl rfl rfl ?_
                            refine rr_read (r_callF rfl rfl rfl (c30 _ (xs := []) (ys := []) rfl rfl (by simp) (by simp))) rfl rfl rfl  ?_
                            refine rr_pure (rp rfl) rfl rfl rfl ?_
                            refine rr_pure (rp rfl) rfl rfl rfl ?_
                            refine rr_split rfl (fun g17 => ?_) (fun g17 => ?_)
                            · have g17p := g17; try simp only [decide_eq_true_eq, decide_eq_false_iff_not, Bool.not_eq_true', Bool.not_eq_false', bne_iff_ne, ne_eq, bne_eq_false_iff_eq, beq_iff_eq, beq_eq_false_iff_ne, Int.natCast_inj] at g17p
                              refine rr_skip rfl rfl g17 ?_
                              refine rr_skip rfl rfl g17 ?_
                              refine rr_skip rfl rfl g17 ?_
                              refine rr_pure (r_pick_t rfl rfl g17 rfl) rfl rfl rfl ?_
                              refine rr_nil rfl ?_
                              refine then_n ?_
                              refine aw_cond rfl (fun _ => ?_) (fun b18 => by first | cases b18 | (rw [b18] at b18; cases b18) | simp_all)
                              refine aw_seq ?_
                              refine aw_region ?_
                              refine rr_pure (rp rfl) rfl rfl rfl ?_
                              refine rr_nil rfl ?_
                              refine then_n ?_
                              refine aw_ret ?_
                              refine then_r ?_
                              first | exact fin_r rfl rfl rfl rfl | (exfalso; omega) | (exfalso; simp_all)
                            · have g17p := g17; try simp only [decide_eq_true_eq, decide_eq_false_iff_not, Bool.not_eq_true', Bool.not_eq_false', bne_iff_ne, ne_eq, bne_eq_false_iff_eq, beq_iff_eq, beq_eq_false_iff_ne, Int.natCast_inj] at g17p
                              refine rr_pure (rp rfl) rfl rfl g17 ?_
                              refine rr_pure (rp rfl) rfl rfl g17 ?_
                              refine rr_pure (r_bbin (.inr rfl) rfl rfl rfl rfl) rfl rfl g17 ?_
                              refine rr_pure (r_pick_f rfl rfl g17 rfl) rfl rfl rfl ?_
                              refine rr_nil rfl ?_
                              refine then_n ?_
                              refine aw_cond rfl (fun b19 => ?_) (fun b19 => ?_)
                              · have b19p := b19; try simp only [decide_eq_true_eq, decide_eq_false_iff_not, Bool.not_eq_true', Bool.not_eq_false', bne_iff_ne, ne_eq, bne_eq_false_iff_eq, beq_iff_eq, beq_eq_false_iff_ne, Int.natCast_inj] at b19p
                                refine aw_seq ?_
                                refine aw_region ?_
                                refine rr_pure (rp rfl) rfl rfl rfl ?_
                                refine rr_nil rfl ?_
                                refine then_n ?_
                                refine aw_ret ?_
                                refine then_r ?_
                                first | exact fin_r rfl rfl rfl rfl | (exfalso; omega) | (exfalso; simp_all)
                              · have b19p := b19; try simp only [decide_eq_true_eq, decide_eq_false_iff_not, Bool.not_eq_true', Bool.not_eq_false', bne_iff_ne, ne_eq, bne_eq_false_iff_eq, beq_iff_eq, beq_eq_false_iff_ne, Int.natCast_inj] at b19p
                                refine aw_skip ?_
                                refine then_n ?_
                                refine aw_seq ?_
                                refine aw_region ?_
                                refine rr_pure (rp rfl) rfl rfl rfl ?_
                                refine rr_nil rfl ?_
                                refine then_n ?_
                                refine aw_seq ?_
                                refine aw_region ?_
                                first
                                  | refine rr_read (r_loadL rfl rfl rfl rfl rfl) rfl rfl rfl ?_
                                  | refine rr_read (r_loadA rfl rfl rfl (Rd.at (by assumption) (by assumption)) rfl) rfl rfl rfl ?_
                                refine rr_pure (rp rfl) rfl rfl rfl ?_
                                refine rr_read (r_callF rfl rfl rfl (c32n _ (by omega))) rfl rfl rfl  ?_
                                refine rr_pure (rp rfl) rfl rfl rfl ?_
                                refine rr_nil rfl ?_
                                refine then_n ?_
                                refine aw_seq ?_
                                refine aw_seq ?_
                                refine aw_region ?_
                                refine rr_pure (rp rfl) rfl rfl rfl ?_
                                refine rr_pure (rp rfl) rfl rfl rfl ?_
                                refine rr_nil rfl ?_
                                refine then_n ?_
                                refine aw_cond rfl (fun b20 => ?_) (fun b20 => ?_)
                                · have b20p := b20; try simp only [decide_eq_true_eq, decide_eq_false_iff_not, Bool.not_eq_true', Bool.not_eq_false', bne_iff_ne, ne_eq, bne_eq_false_iff_eq, beq_iff_eq, beq_eq_false_iff_ne, Int.natCast_inj] at b20p
                                  refine aw_seq ?_
                                  refine aw_region ?_
                                  refine rr_pure (rp rfl) rfl rfl rfl ?_
                                  refine rr_nil rfl ?_
                                  refine then_n ?_
                                  refine aw_ret ?_
                                  refine then_r ?_
                                  first | exact fin_r rfl rfl rfl rfl | (exfalso; omega) | (exfalso; simp_all)
                                · have b20p := b20; try simp only [decide_eq_true_eq, decide_eq_false_iff_not, Bool.not_eq_true', Bool.not_eq_false', bne_iff_ne, ne_eq, bne_eq_false_iff_eq, beq_iff_eq, beq_eq_false_iff_ne, Int.natCast_inj] at b20p
                                  refine aw_skip ?_
                                  refine then_n ?_
                                  refine aw_seq ?_
                                  refine aw_seq ?_
                                  refine aw_region ?_
                                  refine rr_pure (rp rfl) rfl rfl rfl ?_
                                  refine rr_pure (rp rfl) rfl rfl rfl ?_
                                  refine rr_pure (rp rfl) rfl rfl rfl ?_
                                  refine rr_nil rfl ?_
                                  refine then_n ?_
                                  refine aw_cond rfl (fun b21 => ?_) (fun b21 => ?_)
                                  · have b21p := b21; try simp only [decide_eq_true_eq, decide_eq_false_iff_not, Bool.not_eq_true', Bool.not_eq_false', bne_iff_ne, ne_eq, bne_eq_false_iff_eq, beq_iff_eq, beq_eq_false_iff_ne, Int.natCast_inj] at b21p
                                    refine aw_seq ?_
                                    refine aw_region ?_
                                    refine rr_pure (rp rfl) rfl rfl rfl ?_
                                    refine rr_nil rfl ?_
                                    refine then_n ?_
                                    refine aw_ret ?_
                                    refine then_r ?_
                                    first | exact fin_r rfl rfl rfl rfl | (exfalso; omega) | (exfalso; simp_all)
                                  · have b21p := b21; try simp only [decide_eq_true_eq, decide_eq_false_iff_not, Bool.not_eq_true', Bool.not_eq_false', bne_iff_ne, ne_eq, bne_eq_false_iff_eq, beq_iff_eq, beq_eq_false_iff_ne, Int.natCast_inj] at b21p
                                    refine aw_skip ?_
                                    refine then_n ?_
                                    refine aw_seq ?_
                                    refine aw_region ?_
                                    refine rr_pure (rp rfl) rfl rfl rfl ?_
                                    refine rr_nil rfl ?_
                                    refine then_n ?_
                                    refine aw_ret ?_
                                    first | exact fin_r rfl rfl rfl rfl | (exfalso; omega) | (exfalso; simp_all)
end Go.Proofs.Ytjjoigokeicneaa
