import Derived.Test.YtjjoigokeicneaaTE
namespace Go.Proofs.Ytjjoigokeicneaa
open Go.Aw
set_option maxRecDepth 100000
set_option maxHeartbeats 20000000
set_option linter.unusedSimpArgs false
set_option linter.unusedVariables false
theorem c32m (H : Heap) {w h : Int} {v : AC} {k : Int} {n : Nat} (hr : Rd cx H 1 eI v (mk k n)) (hn : n ≤ 2 ^ 44) (hk : 0 ≤ k ∧ k ≤ 2 ^ 50) : ACalls cx 32 [aF w h v, aI k] H (Vi .i64 (k + n)) H := by
  have := c32 H (w := w) (h := h) hr (by rw [mk_length]; exact hn) hk
  rw [mk_length, if_pos rfl] at this
  exact this
theorem eq_self {w h : Int} {xs : List Int} : decide (w = w ∧ h = h ∧ xs = xs) = true := by simp
theorem c5s (H : Heap) {w h w' h' : Int} {v v' v'' : AC} {xs ys rs : List Int} (hr : Rd cx H 1 eI v xs) (hr' : Rd cx H 1 eI v' ys) (hr'' : Rd cx H 1 eI v'' rs) (hn : xs.length ≤ 2 ^ 44) (hn' : ys.length ≤ 2 ^ 44) (hn'' : rs.length ≤ 2 ^ 44) (hc : cond27 w h w' h' xs ys rs = true) :
    ACalls cx 5 [aF w h v, aF w' h' v', .c v''] H (Vb true) H := by
  have hl := copied_len xs ys rs
  generalize hcp : copied xs ys rs = cp at hl
  refine acalls0 Try.func5 rfl rfl (fun S hS hw => ?_)
  refine aw_seq ?_
  refine aw_region ?_
  refine rr_memL (r_boxL rfl rfl) rfl rfl rfl ?_
  refine rr_memL (r_boxL rfl rfl) rfl rfl rfl ?_
  refine rr_pure (rp rfl) rfl rfl rfl ?_
  refine rr_nil rfl ?_
  refine then_n ?_
  refine aw_seq ?_
  refine aw_seq ?_
  refine aw_region ?_
  refine rr_pure (rp rfl) rfl rfl rfl ?_
  first
    | refine rr_pure (rp rfl) rfl rfl rfl ?_
    | refine rr_pure (r_lenR rfl rfl rfl ⟨_, _, hr''⟩) rfl rfl rfl ?_
  refine rr_pure (rp rfl) rfl rfl rfl ?_
  refine rr_nil rfl ?_
  refine then_n ?_
  refine aw_cond rfl (fun b1 => ?_) (fun b1 => ?_)
  · have b1p := b1; try simp only [decide_eq_true_eq, decide_eq_false_iff_not, Bool.not_eq_true', Bool.not_eq_false', bne_iff_ne, ne_eq, bne_eq_false_iff_eq, beq_iff_eq, beq_eq_false_iff_ne, Int.natCast_inj] at b1p
    refine aw_seq ?_
    refine aw_region ?_
    refine rr_pure (rp rfl) rfl rfl rfl ?_
    refine rr_nil rfl ?_
    refine then_n ?_
    refine aw_ret ?_
    refine then_r ?_
    first | exact fin_r rfl rfl rfl rfl | (exfalso; omega) | (exfalso; simp_all; done)
  · have b1p := b1; try simp only [decide_eq_true_eq, decide_eq_false_iff_not, Bool.not_eq_true', Bool.not_eq_false', bne_iff_ne, ne_eq, bne_eq_false_iff_eq, beq_iff_eq, beq_eq_false_iff_ne, Int.natCast_inj] at b1p
    refine aw_skip ?_
    refine then_n ?_
    refine aw_seq ?_
    refine aw_region ?_
    refine rr_pure (rp rfl) rfl rfl rfl ?_
    refine rr_nil rfl ?_
    refine then_n ?_
    refine aw_seq ?_
    refine aw_region ?_
    first
      | refine rr_read (r_loadL rfl rfl rfl rfl rfl) rfl rfl rfl ?_
      | refine rr_read (r_loadA rfl rfl rfl (Rd.at (by assumption) (by assumption)) rfl) rfl rfl rfl ?_
    refine rr_pure (rp rfl) rfl rfl rfl ?_
    refine rr_read (r_callF rfl rfl rfl (c26 _ ⟨_, _, hr⟩ (by omega) (by omega))) rfl rfl rfl  ?_
    refine rr_pure (rp rfl) rfl rfl rfl ?_
    refine rr_nil rfl ?_
    refine then_n ?_
    refine aw_seq ?_
    refine aw_seq ?_
    refine aw_region ?_
    refine rr_pure (rp rfl) rfl rfl rfl ?_
    refine rr_pure (rp rfl) rfl rfl rfl ?_
    refine rr_nil rfl ?_
    refine then_n ?_
    refine aw_cond rfl (fun b2 => ?_) (fun b2 => ?_)
    · have b2p := b2; try simp only [decide_eq_true_eq, decide_eq_false_iff_not, Bool.not_eq_true', Bool.not_eq_false', bne_iff_ne, ne_eq, bne_eq_false_iff_eq, beq_iff_eq, beq_eq_false_iff_ne, Int.natCast_inj] at b2p
      refine aw_seq ?_
      refine aw_region ?_
      refine rr_pure (rp rfl) rfl rfl rfl ?_
      refine rr_nil rfl ?_
      refine then_n ?_
      refine aw_ret ?_
      refine then_r ?_
      first | exact fin_r rfl rfl rfl rfl | (exfalso; omega) | (exfalso; simp_all; done)
    · have b2p := b2; try simp only [decide_eq_true_eq, decide_eq_false_iff_not, Bool.not_eq_true', Bool.not_eq_false', bne_iff_ne, ne_eq, bne_eq_false_iff_eq, beq_iff_eq, beq_eq_false_iff_ne, Int.natCast_inj] at b2p
      have hz1 := sz_le (left := 1048576) (n := xs.length) (by omega) (by omega)
      refine aw_skip ?_
      refine then_n ?_
      refine aw_seq ?_
      refine aw_region ?_
      first
        | refine rr_read (r_loadL rfl rfl rfl rfl rfl) rfl rfl rfl ?_
        | refine rr_read (r_loadA rfl rfl rfl (Rd.at (by assumption) (by assumption)) rfl) rfl rfl rfl ?_
      refine rr_pure (rp rfl) rfl rfl rfl ?_
      refine rr_read (r_callF rfl rfl rfl (c26 _ ⟨_, _, hr'⟩ (by omega) (by omega))) rfl rfl rfl  ?_
      refine rr_pure (rp rfl) rfl rfl rfl ?_
      refine rr_nil rfl ?_
      refine then_n ?_
      refine aw_seq ?_
      refine aw_seq ?_
      refine aw_region ?_
      refine rr_pure (rp rfl) rfl rfl rfl ?_
      refine rr_pure (rp rfl) rfl rfl rfl ?_
      refine rr_nil rfl ?_
      refine then_n ?_
      refine aw_cond rfl (fun b3 => ?_) (fun b3 => ?_)
      · have b3p := b3; try simp only [decide_eq_true_eq, decide_eq_false_iff_not, Bool.not_eq_true', Bool.not_eq_false', bne_iff_ne, ne_eq, bne_eq_false_iff_eq, beq_iff_eq, beq_eq_false_iff_ne, Int.natCast_inj] at b3p
        refine aw_seq ?_
        refine aw_region ?_
        refine rr_pure (rp rfl) rfl rfl rfl ?_
        refine rr_nil rfl ?_
        refine then_n ?_
        refine aw_ret ?_
        refine then_r ?_
        first | exact fin_r rfl rfl rfl rfl | (exfalso; omega) | (exfalso; simp_all; done)
      · have b3p := b3; try simp only [decide_eq_true_eq, decide_eq_false_iff_not, Bool.not_eq_true', Bool.not_eq_false', bne_iff_ne, ne_eq, bne_eq_false_iff_eq, beq_iff_eq, beq_eq_false_iff_ne, Int.natCast_inj] at b3p
        have hz2 := sz_le (n := ys.length) (left := szI xs.length 1048576) (by omega) (by omega)
        refine aw_skip ?_
        refine then_n ?_
        refine aw_seq ?_
        refine aw_region_draw ?_
        first
          | refine rr_read (r_loadL rfl rfl rfl rfl rfl) rfl rfl rfl ?_
          | refine rr_read (r_loadA rfl rfl rfl (Rd.at (by assumption) (by assumption)) rfl) rfl rfl rfl ?_
        refine rr_memL (r_callF rfl rfl rfl (c28 List.length_append (by first | exact hr.app | exact hr'.app) (by omega))) rfl rfl rfl  ?_
        first
          | refine rr_read (r_loadL rfl rfl rfl rfl rfl) rfl rfl rfl ?_
          | refine rr_read (r_loadA rfl rfl rfl (Rd.at (by assumption) (by assumption)) rfl) rfl rfl rfl ?_
        refine rr_memL (r_callF rfl rfl rfl (c28 List.length_append (by first | exact hr.app | exact hr'.app) (by omega))) rfl rfl rfl  ?_
        refine rr_pure (rp rfl) rfl rfl rfl ?_
        refine rr_memL (r_callF rfl rfl rfl (c8 List.length_append hr''.app (by omega))) rfl rfl rfl  ?_
        refine rr_memL (r_callF rfl rfl rfl (hcp ▸ c27s List.length_append (Rd.own (j := 2) lI rfl rfl) (Rd.own (j := 3) lI rfl rfl) (Rd.own (j := 4) lI rfl rfl) (by omega) (by omega) (by omega) hc)) rfl rfl rfl  ?_
        refine rr_pure (rp rfl) rfl rfl rfl ?_
        refine rr_pure (rp rfl) rfl rfl rfl ?_
        refine rr_pure (rp rfl) rfl rfl rfl ?_
        refine rr_memL (r_allocL rfl rfl) rfl rfl rfl ?_
        refine rr_eff (r_storeL rfl rfl rfl rfl rfl rfl rfl (Nat.le_of_ble_eq_true rfl)) rfl rfl rfl (by simp) ?_
        refine rr_pure (rp rfl) rfl rfl rfl ?_
        refine rr_nil (by kernel_rfl) ?_
        refine then_n ?_
        refine aw_seq ?_
        refine aw_region ?_
        first
          | refine rr_read (r_loadL rfl rfl rfl rfl rfl) rfl rfl rfl ?_
          | refine rr_read (r_loadA rfl rfl rfl (Rd.at (by assumption) (by assumption)) rfl) rfl rfl rfl ?_
        refine rr_memL (r_callF rfl rfl rfl (c28 List.length_append (by first | exact hr.app | exact hr'.app) (by omega))) rfl rfl rfl  ?_
        refine rr_memL (r_allocL rfl rfl) rfl rfl rfl ?_
        refine rr_eff (r_storeL rfl rfl rfl rfl rfl rfl rfl (Nat.le_of_ble_eq_true rfl)) rfl rfl rfl (by simp) ?_
        refine rr_nil rfl ?_
        refine then_n ?_
        refine aw_seq ?_
        refine aw_region ?_
        first
          | refine rr_read (r_loadL rfl rfl rfl rfl rfl) rfl rfl rfl ?_
          | refine rr_read (r_loadA rfl rfl rfl (Rd.at (by assumption) (by assumption)) rfl) rfl rfl rfl ?_
        refine rr_memL (r_callF rfl rfl rfl (c28 List.length_append (by first | exact hr.app | exact hr'.app) (by omega))) rfl rfl rfl  ?_
        refine rr_memL (r_allocL rfl rfl) rfl rfl rfl ?_
        refine rr_eff (r_storeL rfl rfl rfl rfl rfl rfl rfl (Nat.le_of_ble_eq_true rfl)) rfl rfl rfl (by simp) ?_
        refine rr_nil rfl ?_
        refine then_n ?_
        refine aw_seq ?_
        refine aw_region ?_
        refine rr_pure (rp rfl) rfl rfl rfl ?_
        refine rr_memL (r_callF rfl rfl rfl (c8 List.length_append hr''.app (by omega))) rfl rfl rfl  ?_
        refine rr_pure (rp rfl) rfl rfl rfl ?_
        refine rr_nil rfl ?_
        refine then_n ?_
        refine aw_seq ?_
        refine aw_here [(2, sC v''), (3, pL (H.length + 0)), (4, pL (H.length + 1)), (8, pL (H.length + 6)), (9, some (Vb true)), (10, pL (H.length + 8)), (11, pL (H.length + 10)), (12, sC (.sl (.l (H.length + 11)) 0 rs.length rs.length true))] [some ⟨(aF w h v).cells, true, 0⟩, some ⟨(aF w' h' v').cells, true, 0⟩, bI xs, bI ys, bI rs, bI cp, some ⟨(aF w h (.sl (.l (H.length + 5)) 0 xs.length xs.length false)).cells, true, 0⟩, bI xs, some ⟨(aF w h (.sl (.l (H.length + 7)) 0 xs.length xs.length true)).cells, true, 0⟩, bI ys, some ⟨(aF w' h' (.sl (.l (H.length + 9)) 0 ys.length ys.length true)).cells, true, 0⟩, bI rs] (by repeat (first | exact Sub.nil _ | refine Sub.cons rfl ?_)) rfl ?_
        refine aw_region ?_
        first
          | refine rr_read (r_loadL rfl rfl rfl rfl rfl) rfl rfl rfl ?_
          | refine rr_read (r_loadA rfl rfl rfl (Rd.at (by assumption) (by assumption)) rfl) rfl rfl rfl ?_
        first
          | refine rr_read (r_loadL rfl rfl rfl rfl rfl) rfl rfl rfl ?_
          | refine rr_read (r_loadA rfl rfl rfl (Rd.at (by assumption) (by assumption)) rfl) rfl rfl rfl ?_
        refine rr_pure (rp rfl) rfl rfl rfl ?_
        refine rr_memL (r_callF rfl rfl rfl (hcp ▸ c29s List.length_append (Rd.own (j := 7) lI rfl rfl) (Rd.own (j := 9) lI rfl rfl) (Rd.own (j := 11) lI rfl rfl) (by omega) (by omega) (by omega) (cond_same.trans hc))) rfl rfl rfl  ?_
        refine rr_pure (rp rfl) rfl rfl rfl ?_
        refine rr_pure (rp rfl) rfl rfl rfl ?_
        refine rr_pure (rp rfl) rfl rfl rfl ?_
        refine rr_memL (r_allocL rfl rfl) rfl rfl rfl ?_
        refine rr_eff (r_storeL rfl rfl rfl rfl rfl rfl rfl (Nat.le_of_ble_eq_true rfl)) rfl rfl rfl (by simp) ?_
        refine rr_pure (rp rfl) rfl rfl rfl ?_
        refine rr_nil rfl ?_
        refine then_n ?_
        refine aw_seq ?_
        refine aw_seq ?_
        refine aw_here [(2, sC v''), (3, pL (H.length + 0)), (4, pL (H.length + 1)), (8, pL (H.length + 6)), (9, some (Vb true)), (10, pL (H.length + 8)), (11, pL (H.length + 10)), (12, sC (.sl (.l (H.length + 11)) 0 rs.length rs.length true)), (13, pL (H.length + 13)), (14, some (Vb true))] [some ⟨(aF w h v).cells, true, 0⟩, some ⟨(aF w' h' v').cells, true, 0⟩, bI xs, bI ys, bI rs, bI cp, some ⟨(aF w h (.sl (.l (H.length + 5)) 0 xs.length xs.length false)).cells, true, 0⟩, bI xs, some ⟨(aF w h (.sl (.l (H.length + 7)) 0 xs.length xs.length true)).cells, true, 0⟩, bI ys, some ⟨(aF w' h' (.sl (.l (H.length + 9)) 0 ys.length ys.length true)).cells, true, 0⟩, bI rs, bI cp, some ⟨(aF w h (.sl (.l (H.length + 12)) 0 xs.length xs.length false)).cells, true, 0⟩] (by repeat (first | exact Sub.nil _ | refine Sub.cons rfl ?_)) rfl ?_
        refine aw_region ?_
        first
          | refine rr_read (r_loadL rfl rfl rfl rfl rfl) rfl rfl rfl ?_
          | refine rr_read (r_loadA rfl rfl rfl (Rd.at (by assumption) (by assumption)) rfl) rfl rfl rfl ?_
        first
          | refine rr_read (r_loadL rfl rfl rfl rfl rfl) rfl rfl rfl ?_
          | refine rr_read (r_loadA rfl rfl rfl (Rd.at (by assumption) (by assumption)) rfl) rfl rfl rfl ?_
        refine rr_read (r_callF rfl rfl rfl (c30 _  (Rd.own (j := 12) lI rfl hl.symm) (Rd.own (j := 5) lI rfl hl.symm) (by omega) (by omega))) rfl rfl rfl  ?_
        refine rr_pure (rp rfl) rfl rfl rfl ?_
        refine rr_pure (rp rfl) rfl rfl rfl ?_
        refine rr_split rfl (fun g4 => ?_) (fun g4 => ?_)
        · have g4p := g4; try simp only [decide_eq_true_eq, decide_eq_false_iff_not, Bool.not_eq_true', Bool.not_eq_false', bne_iff_ne, ne_eq, bne_eq_false_iff_eq, beq_iff_eq, beq_eq_false_iff_ne, Int.natCast_inj] at g4p
          refine rr_skip rfl rfl g4 ?_
          refine rr_skip rfl rfl g4 ?_
          refine rr_skip rfl rfl g4 ?_
          refine rr_pure (r_pick_t rfl rfl g4 rfl) rfl rfl rfl ?_
          refine rr_nil rfl ?_
          refine then_n ?_
          refine aw_cond rfl (fun _ => ?_) (fun b5 => by first | cases b5 | (rw [b5] at b5; cases b5) | simp_all)
          refine aw_seq ?_
          refine aw_region ?_
          refine rr_pure (rp rfl) rfl rfl rfl ?_
          refine rr_nil rfl ?_
          refine then_n ?_
          refine aw_ret ?_
          refine then_r ?_
          first | exact fin_r rfl rfl rfl rfl | (exfalso; omega) | (exfalso; simp_all; done)
        · have g4p := g4; try simp only [decide_eq_true_eq, decide_eq_false_iff_not, Bool.not_eq_true', Bool.not_eq_false', bne_iff_ne, ne_eq, bne_eq_false_iff_eq, beq_iff_eq, beq_eq_false_iff_ne, Int.natCast_inj] at g4p
          refine rr_pure (rp rfl) rfl rfl g4 ?_
          refine rr_pure (rp rfl) rfl rfl g4 ?_
          refine rr_pure (r_bbin (.inr rfl) rfl rfl rfl rfl) rfl rfl g4 ?_
          refine rr_pure (r_pick_f rfl rfl g4 rfl) rfl rfl rfl ?_
          refine rr_nil rfl ?_
          refine then_n ?_
          refine aw_cond rfl (fun b6 => ?_) (fun b6 => ?_)
          · have b6p := b6; try simp only [decide_eq_true_eq, decide_eq_false_iff_not, Bool.not_eq_true', Bool.not_eq_false', bne_iff_ne, ne_eq, bne_eq_false_iff_eq, beq_iff_eq, beq_eq_false_iff_ne, Int.natCast_inj] at b6p
            refine aw_seq ?_
            refine aw_region ?_
            refine rr_pure (rp rfl) rfl rfl rfl ?_
            refine rr_nil rfl ?_
            refine then_n ?_
            refine aw_ret ?_
            refine then_r ?_
            first | exact fin_r rfl rfl rfl rfl | (exfalso; omega) | (exfalso; simp_all; done)
          · have b6p := b6; try simp only [decide_eq_true_eq, decide_eq_false_iff_not, Bool.not_eq_true', Bool.not_eq_false', bne_iff_ne, ne_eq, bne_eq_false_iff_eq, beq_iff_eq, beq_eq_false_iff_ne, Int.natCast_inj] at b6p
            refine aw_skip ?_
            refine then_n ?_
            refine aw_seq ?_
            refine aw_seq ?_
            refine aw_here [(2, sC v''), (3, pL (H.length + 0)), (4, pL (H.length + 1)), (8, pL (H.length + 6)), (9, some (Vb true)), (10, pL (H.length + 8)), (11, pL (H.length + 10)), (12, sC (.sl (.l (H.length + 11)) 0 rs.length rs.length true)), (13, pL (H.length + 13)), (14, some (Vb true))] [some ⟨(aF w h v).cells, true, 0⟩, some ⟨(aF w' h' v').cells, true, 0⟩, bI xs, bI ys, bI rs, bI cp, some ⟨(aF w h (.sl (.l (H.length + 5)) 0 xs.length xs.length false)).cells, true, 0⟩, bI xs, some ⟨(aF w h (.sl (.l (H.length + 7)) 0 xs.length xs.length true)).cells, true, 0⟩, bI ys, some ⟨(aF w' h' (.sl (.l (H.length + 9)) 0 ys.length ys.length true)).cells, true, 0⟩, bI rs, bI cp, some ⟨(aF w h (.sl (.l (H.length + 12)) 0 xs.length xs.length false)).cells, true, 0⟩] (by repeat (first | exact Sub.nil _ | refine Sub.cons rfl ?_)) rfl ?_
            refine aw_region_draw ?_
            first
              | refine rr_read (r_loadL rfl rfl rfl rfl rfl) rfl rfl rfl ?_
              | refine rr_read (r_loadA rfl rfl rfl (Rd.at (by assumption) (by assumption)) rfl) rfl rfl rfl ?_
            first
              | refine rr_read (r_loadL rfl rfl rfl rfl rfl) rfl rfl rfl ?_
              | refine rr_read (r_loadA rfl rfl rfl (Rd.at (by assumption) (by assumption)) rfl) rfl rfl rfl ?_
            refine rr_memL (r_callF rfl rfl rfl (c28 List.length_append (by first | exact hr.app | exact hr'.app) (by omega))) rfl rfl rfl  ?_
            refine rr_read (r_callF rfl rfl rfl (c30 _  (Rd.own (j := 7) lI rfl rfl) (Rd.own (j := 14) lI rfl rfl) (by omega) (by omega))) rfl rfl rfl  ?_
            refine rr_pure (rp rfl) rfl rfl rfl ?_
            refine rr_nil (by kernel_rfl) ?_
            refine then_n ?_
            refine aw_cond rfl (fun b7 => ?_) (fun b7 => ?_)
            · have b7p := b7; try simp only [decide_eq_true_eq, decide_eq_false_iff_not, Bool.not_eq_true', Bool.not_eq_false', bne_iff_ne, ne_eq, bne_eq_false_iff_eq, beq_iff_eq, beq_eq_false_iff_ne, Int.natCast_inj] at b7p
              refine aw_seq ?_
              refine aw_region ?_
              refine rr_pure (rp rfl) rfl rfl rfl ?_
              refine rr_nil rfl ?_
              refine then_n ?_
              refine aw_ret ?_
              refine then_r ?_
              first | exact fin_r rfl rfl rfl rfl | (exfalso; omega) | (exfalso; simp_all; done)
            · have b7p := b7; try simp only [decide_eq_true_eq, decide_eq_false_iff_not, Bool.not_eq_true', Bool.not_eq_false', bne_iff_ne, ne_eq, bne_eq_false_iff_eq, beq_iff_eq, beq_eq_false_iff_ne, Int.natCast_inj] at b7p
              refine aw_skip ?_
              refine then_n ?_
              refine aw_seq ?_
              refine aw_seq ?_
              refine aw_here [(2, sC v''), (3, pL (H.length + 0)), (4, pL (H.length + 1)), (8, pL (H.length + 6)), (9, some (Vb true)), (10, pL (H.length + 8)), (11, pL (H.length + 10)), (12, sC (.sl (.l (H.length + 11)) 0 rs.length rs.length true)), (13, pL (H.length + 13)), (14, some (Vb true))] [some ⟨(aF w h v).cells, true, 0⟩, some ⟨(aF w' h' v').cells, true, 0⟩, bI xs, bI ys, bI rs, bI cp, some ⟨(aF w h (.sl (.l (H.length + 5)) 0 xs.length xs.length false)).cells, true, 0⟩, bI xs, some ⟨(aF w h (.sl (.l (H.length + 7)) 0 xs.length xs.length true)).cells, true, 0⟩, bI ys, some ⟨(aF w' h' (.sl (.l (H.length + 9)) 0 ys.length ys.length true)).cells, true, 0⟩, bI rs, bI cp, some ⟨(aF w h (.sl (.l (H.length + 12)) 0 xs.length xs.length false)).cells, true, 0⟩, bI xs] (by repeat (first | exact Sub.nil _ | refine Sub.cons rfl ?_)) rfl ?_
              refine aw_region_draw ?_
              first
                | refine rr_read (r_loadL rfl rfl rfl rfl rfl) rfl rfl rfl ?_
                | refine rr_read (r_loadA rfl rfl rfl (Rd.at (by assumption) (by assumption)) rfl) rfl rfl rfl ?_
              first
                | refine rr_read (r_loadL rfl rfl rfl rfl rfl) rfl rfl rfl ?_
                | refine rr_read (r_loadA rfl rfl rfl (Rd.at (by assumption) (by assumption)) rfl) rfl rfl rfl ?_
              refine rr_memL (r_callF rfl rfl rfl (c28 List.length_append (by first | exact hr.app | exact hr'.app) (by omega))) rfl rfl rfl  ?_
              refine rr_read (r_callF rfl rfl rfl (c30 _  (Rd.own (j := 9) lI rfl rfl) (Rd.own (j := 15) lI rfl rfl) (by omega) (by omega))) rfl rfl rfl  ?_
              refine rr_pure (rp rfl) rfl rfl rfl ?_
              refine rr_nil (by kernel_rfl) ?_
              refine then_n ?_
              refine aw_cond rfl (fun b8 => ?_) (fun b8 => ?_)
              · have b8p := b8; try simp only [decide_eq_true_eq, decide_eq_false_iff_not, Bool.not_eq_true', Bool.not_eq_false', bne_iff_ne, ne_eq, bne_eq_false_iff_eq, beq_iff_eq, beq_eq_false_iff_ne, Int.natCast_inj] at b8p
                refine aw_seq ?_
                refine aw_region ?_
                refine rr_pure (rp rfl) rfl rfl rfl ?_
                refine rr_nil rfl ?_
                refine then_n ?_
                refine aw_ret ?_
                refine then_r ?_
                first | exact fin_r rfl rfl rfl rfl | (exfalso; omega) | (exfalso; simp_all; done)
              · have b8p := b8; try simp only [decide_eq_true_eq, decide_eq_false_iff_not, Bool.not_eq_true', Bool.not_eq_false', bne_iff_ne, ne_eq, bne_eq_false_iff_eq, beq_iff_eq, beq_eq_false_iff_ne, Int.natCast_inj] at b8p
                refine aw_skip ?_
                refine then_n ?_
                refine aw_seq ?_
                refine aw_seq ?_
                refine aw_here [(2, sC v''), (3, pL (H.length + 0)), (4, pL (H.length + 1)), (8, pL (H.length + 6)), (9, some (Vb true)), (10, pL (H.length + 8)), (11, pL (H.length + 10)), (12, sC (.sl (.l (H.length + 11)) 0 rs.length rs.length true)), (13, pL (H.length + 13)), (14, some (Vb true))] [some ⟨(aF w h v).cells, true, 0⟩, some ⟨(aF w' h' v').cells, true, 0⟩, bI xs, bI ys, bI rs, bI cp, some ⟨(aF w h (.sl (.l (H.length + 5)) 0 xs.length xs.length false)).cells, true, 0⟩, bI xs, some ⟨(aF w h (.sl (.l (H.length + 7)) 0 xs.length xs.length true)).cells, true, 0⟩, bI ys, some ⟨(aF w' h' (.sl (.l (H.length + 9)) 0 ys.length ys.length true)).cells, true, 0⟩, bI rs, bI cp, some ⟨(aF w h (.sl (.l (H.length + 12)) 0 xs.length xs.length false)).cells, true, 0⟩, bI xs, bI ys] (by repeat (first | exact Sub.nil _ | refine Sub.cons rfl ?_)) rfl ?_
                refine aw_region ?_
                refine rr_pure (rp rfl) rfl rfl rfl ?_
                refine rr_pure (rp rfl) rfl rfl rfl ?_
                refine rr_memL (r_callF rfl rfl rfl (c8 List.length_append hr''.app (by omega))) rfl rfl rfl  ?_
                refine rr_read (r_callF rfl rfl rfl (c10 _  (Rd.own (j := 11) lI rfl rfl) (Rd.own (j := 16) lI rfl rfl) (by omega) (by omega))) rfl rfl rfl  ?_
                refine rr_pure (rp rfl) rfl rfl rfl ?_
                refine rr_nil rfl ?_
                refine then_n ?_
                refine aw_cond rfl (fun b9 => ?_) (fun b9 => ?_)
                · have b9p := b9; try simp only [decide_eq_true_eq, decide_eq_false_iff_not, Bool.not_eq_true', Bool.not_eq_false', bne_iff_ne, ne_eq, bne_eq_false_iff_eq, beq_iff_eq, beq_eq_false_iff_ne, Int.natCast_inj] at b9p
                  refine aw_seq ?_
                  refine aw_region ?_
                  refine rr_pure (rp rfl) rfl rfl rfl ?_
                  refine rr_nil rfl ?_
                  refine then_n ?_
                  refine aw_ret ?_
                  refine then_r ?_
                  first | exact fin_r rfl rfl rfl rfl | (exfalso; omega) | (exfalso; simp_all; done)
                · have b9p := b9; try simp only [decide_eq_true_eq, decide_eq_false_iff_not, Bool.not_eq_true', Bool.not_eq_false', bne_iff_ne, ne_eq, bne_eq_false_iff_eq, beq_iff_eq, beq_eq_false_iff_ne, Int.natCast_inj] at b9p
                  refine aw_skip ?_
                  refine then_n ?_
                  refine aw_seq ?_
                  refine aw_here [(2, sC v''), (3, pL (H.length + 0)), (4, pL (H.length + 1)), (8, pL (H.length + 6)), (9, some (Vb true)), (10, pL (H.length + 8)), (11, pL (H.length + 10)), (12, sC (.sl (.l (H.length + 11)) 0 rs.length rs.length true)), (13, pL (H.length + 13)), (14, some (Vb true))] [some ⟨(aF w h v).cells, true, 0⟩, some ⟨(aF w' h' v').cells, true, 0⟩, bI xs, bI ys, bI rs, bI cp, some ⟨(aF w h (.sl (.l (H.length + 5)) 0 xs.length xs.length false)).cells, true, 0⟩, bI xs, some ⟨(aF w h (.sl (.l (H.length + 7)) 0 xs.length xs.length true)).cells, true, 0⟩, bI ys, some ⟨(aF w' h' (.sl (.l (H.length + 9)) 0 ys.length ys.length true)).cells, true, 0⟩, bI rs, bI cp, some ⟨(aF w h (.sl (.l (H.length + 12)) 0 xs.length xs.length false)).cells, true, 0⟩, bI xs, bI ys, bI rs] (by repeat (first | exact Sub.nil _ | refine Sub.cons rfl ?_)) rfl ?_
                  refine aw_region ?_
                  refine rr_pure (rp rfl) rfl rfl rfl ?_
                  refine rr_nil rfl ?_
                  refine then_n ?_
                  refine aw_seq ?_
                  refine aw_region ?_
                  first
                    | refine rr_read (r_loadL rfl rfl rfl rfl rfl) rfl rfl rfl ?_
                    | refine rr_read (r_loadA rfl rfl rfl (Rd.at (by assumption) (by assumption)) rfl) rfl rfl rfl ?_
                  refine rr_pure (rp rfl) rfl rfl rfl ?_
                  refine rr_eff (r_callF rfl rfl rfl (c31 (j := 7) rfl rfl (by omega) (by omega))) rfl rfl rfl (by simp) ?_
                  refine rr_pure (rp rfl) rfl rfl rfl ?_
                  refine rr_nil rfl ?_
                  refine then_n ?_
                  refine aw_seq ?_
                  refine aw_region ?_
                  first
                    | refine rr_read (r_loadL rfl rfl rfl rfl rfl) rfl rfl rfl ?_
                    | refine rr_read (r_loadA rfl rfl rfl (Rd.at (by assumption) (by assumption)) rfl) rfl rfl rfl ?_
                  refine rr_pure (rp rfl) rfl rfl rfl ?_
                  refine rr_eff (r_callF rfl rfl rfl (c31 (j := 9) rfl rfl (by omega) (by omega))) rfl rfl rfl (by simp) ?_
                  refine rr_pure (rp rfl) rfl rfl rfl ?_
                  refine rr_nil rfl ?_
                  refine then_n ?_
                  refine aw_seq ?_
                  refine aw_region ?_
                  refine rr_pure (rp rfl) rfl rfl rfl ?_
                  refine rr_pure (rp rfl) rfl rfl rfl ?_
                  refine rr_eff (r_callF rfl rfl rfl (c11 (j := 11) rfl rfl (by omega) (by omega))) rfl rfl rfl (by simp) ?_
                  refine rr_pure (rp rfl) rfl rfl rfl ?_
                  refine rr_nil rfl ?_
                  refine then_n ?_
                  refine aw_seq ?_
                  refine aw_seq ?_
                  refine aw_here [(2, sC v''), (3, pL (H.length + 0)), (4, pL (H.length + 1)), (8, pL (H.length + 6)), (9, some (Vb true)), (10, pL (H.length + 8)), (11, pL (H.length + 10)), (12, sC (.sl (.l (H.length + 11)) 0 rs.length rs.length true)), (13, pL (H.length + 13)), (14, some (Vb true)), (15, sI (1 + xs.length + ys.length + rs.length))] [some ⟨(aF w h v).cells, true, 0⟩, some ⟨(aF w' h' v').cells, true, 0⟩, bI xs, bI ys, bI rs, bI cp, some ⟨(aF w h (.sl (.l (H.length + 5)) 0 xs.length xs.length false)).cells, true, 0⟩, bI (mk 1 xs.length), some ⟨(aF w h (.sl (.l (H.length + 7)) 0 xs.length xs.length true)).cells, true, 0⟩, bI (mk (1 + xs.length) ys.length), some ⟨(aF w' h' (.sl (.l (H.length + 9)) 0 ys.length ys.length true)).cells, true, 0⟩, bI (mk (1 + xs.length + ys.length) rs.length), bI cp, some ⟨(aF w h (.sl (.l (H.length + 12)) 0 xs.length xs.length false)).cells, true, 0⟩, bI xs, bI ys, bI rs] (by repeat (first | exact Sub.nil _ | refine Sub.cons rfl ?_)) rfl ?_
                  refine aw_region ?_
                  refine rr_pure (rp rfl) rfl rfl rfl ?_
                  refine rr_pure (rp rfl) rfl rfl rfl ?_
                  refine rr_pure (rp rfl) rfl rfl rfl ?_
                  refine rr_split rfl (fun g10 => ?_) (fun g10 => ?_)
                  · have g10p := g10; try simp only [decide_eq_true_eq, decide_eq_false_iff_not, Bool.not_eq_true', Bool.not_eq_false', bne_iff_ne, ne_eq, bne_eq_false_iff_eq, beq_iff_eq, beq_eq_false_iff_ne, Int.natCast_inj] at g10p
                    refine rr_skip rfl rfl g10 ?_
                    refine rr_skip rfl rfl g10 ?_
                    refine rr_skip rfl rfl g10 ?_
                    refine rr_skip rfl rfl g10 ?_
                    refine rr_pure (r_pick_t rfl rfl g10 rfl) rfl rfl rfl ?_
                    refine rr_pure (rp rfl) rfl rfl rfl ?_
                    refine rr_skip rfl rfl rfl ?_
                    refine rr_skip rfl rfl rfl ?_
                    refine rr_skip rfl rfl rfl ?_
                    refine rr_pure (r_pick_t rfl rfl rfl rfl) rfl rfl rfl ?_
                    refine rr_nil rfl ?_
                    refine then_n ?_
                    refine aw_cond rfl (fun _ => ?_) (fun b11 => by first | cases b11 | (rw [b11] at b11; cases b11) | simp_all)
                    refine aw_seq ?_
                    refine aw_region ?_
                    refine rr_pure (rp rfl) rfl rfl rfl ?_
                    refine rr_nil rfl ?_
                    refine then_n ?_
                    refine aw_ret ?_
                    refine then_r ?_
                    first | exact fin_r rfl rfl rfl rfl | (exfalso; omega) | (exfalso; simp_all; done)
                  · have g10p := g10; try simp only [decide_eq_true_eq, decide_eq_false_iff_not, Bool.not_eq_true', Bool.not_eq_false', bne_iff_ne, ne_eq, bne_eq_false_iff_eq, beq_iff_eq, beq_eq_false_iff_ne, Int.natCast_inj] at g10p
                    first
                      | refine rr_read (r_loadL rfl rfl rfl rfl rfl) rfl rfl g10 ?_
                      | refine rr_read (r_loadA rfl rfl rfl (Rd.at (by assumption) (by assumption)) rfl) rfl rfl g10 ?_
                    first
                      | refine rr_read (r_loadL rfl rfl rfl rfl rfl) rfl rfl g10 ?_
                      | refine rr_read (r_loadA rfl rfl rfl (Rd.at (by assumption) (by assumption)) rfl) rfl rfl g10 ?_
                    refine rr_read (r_callF rfl rfl rfl (c30 _  (Rd.own (j := 12) lI rfl hl.symm) (Rd.own (j := 5) lI rfl hl.symm) (by omega) (by omega))) rfl rfl g10  ?_
                    refine rr_pure (rp rfl) rfl rfl g10 ?_
                    refine rr_pure (r_pick_f rfl rfl g10 rfl) rfl rfl rfl ?_
                    refine rr_pure (rp rfl) rfl rfl rfl ?_
                    refine rr_split rfl (fun g12 => ?_) (fun g12 => ?_)
                    · have g12p := g12; try simp only [decide_eq_true_eq, decide_eq_false_iff_not, Bool.not_eq_true', Bool.not_eq_false', bne_iff_ne, ne_eq, bne_eq_false_iff_eq, beq_iff_eq, beq_eq_false_iff_ne, Int.natCast_inj] at g12p
                      refine rr_skip rfl rfl g12 ?_
                      refine rr_skip rfl rfl g12 ?_
                      refine rr_skip rfl rfl g12 ?_
                      refine rr_pure (r_pick_t rfl rfl g12 rfl) rfl rfl rfl ?_
                      refine rr_nil rfl ?_
                      refine then_n ?_
                      refine aw_cond rfl (fun _ => ?_) (fun b13 => by first | cases b13 | (rw [b13] at b13; cases b13) | simp_all)
                      refine aw_seq ?_
                      refine aw_region ?_
                      refine rr_pure (rp rfl) rfl rfl rfl ?_
                      refine rr_nil rfl ?_
                      refine then_n ?_
                      refine aw_ret ?_
                      refine then_r ?_
                      first | exact fin_r rfl rfl rfl rfl | (exfalso; omega) | (exfalso; simp_all; done)
                    · have g12p := g12; try simp only [decide_eq_true_eq, decide_eq_false_iff_not, Bool.not_eq_true', Bool.not_eq_false', bne_iff_ne, ne_eq, bne_eq_false_iff_eq, beq_iff_eq, beq_eq_false_iff_ne, Int.natCast_inj] at g12p
                      refine rr_pure (rp rfl) rfl rfl g12 ?_
                      refine rr_pure (rp rfl) rfl rfl g12 ?_
                      refine rr_pure (r_bbin (.inr rfl) rfl rfl rfl rfl) rfl rfl g12 ?_
                      refine rr_pure (r_pick_f rfl rfl g12 rfl) rfl rfl rfl ?_
                      refine rr_nil rfl ?_
                      refine then_n ?_
                      refine aw_cond rfl (fun b14 => ?_) (fun b14 => ?_)
                      · have b14p := b14; try simp only [decide_eq_true_eq, decide_eq_false_iff_not, Bool.not_eq_true', Bool.not_eq_false', bne_iff_ne, ne_eq, bne_eq_false_iff_eq, beq_iff_eq, beq_eq_false_iff_ne, Int.natCast_inj] at b14p
                        refine aw_seq ?_
                        refine aw_region ?_
                        refine rr_pure (rp rfl) rfl rfl rfl ?_
                        refine rr_nil rfl ?_
                        refine then_n ?_
                        refine aw_ret ?_
                        refine then_r ?_
                        first | exact fin_r rfl rfl rfl rfl | (exfalso; omega) | (exfalso; simp_all; done)
                      · have b14p := b14; try simp only [decide_eq_true_eq, decide_eq_false_iff_not, Bool.not_eq_true', Bool.not_eq_false', bne_iff_ne, ne_eq, bne_eq_false_iff_eq, beq_iff_eq, beq_eq_false_iff_ne, Int.natCast_inj] at b14p
                        refine aw_skip ?_
                        refine then_n ?_
                        refine aw_seq ?_
                        refine aw_here [(2, sC v''), (3, pL (H.length + 0)), (4, pL (H.length + 1)), (8, pL (H.length + 6)), (9, some (Vb true)), (10, pL (H.length + 8)), (11, pL (H.length + 10)), (12, sC (.sl (.l (H.length + 11)) 0 rs.length rs.length true)), (13, pL (H.length + 13)), (14, some (Vb true))] [some ⟨(aF w h v).cells, true, 0⟩, some ⟨(aF w' h' v').cells, true, 0⟩, bI xs, bI ys, bI rs, bI cp, some ⟨(aF w h (.sl (.l (H.length + 5)) 0 xs.length xs.length false)).cells, true, 0⟩, bI (mk 1 xs.length), some ⟨(aF w h (.sl (.l (H.length + 7)) 0 xs.length xs.length true)).cells, true, 0⟩, bI (mk (1 + xs.length) ys.length), some ⟨(aF w' h' (.sl (.l (H.length + 9)) 0 ys.length ys.length true)).cells, true, 0⟩, bI (mk (1 + xs.length + ys.length) rs.length), bI cp, some ⟨(aF w h (.sl (.l (H.length + 12)) 0 xs.length xs.length false)).cells, true, 0⟩, bI xs, bI ys, bI rs] (by repeat (first | exact Sub.nil _ | refine Sub.cons rfl ?_)) rfl ?_
                        refine aw_region ?_
                        refine rr_pure (rp rfl) rfl rfl rfl ?_
                        refine rr_nil rfl ?_
                        refine then_n ?_
                        refine aw_seq ?_
                        refine aw_region ?_
                        first
                          | refine rr_read (r_loadL rfl rfl rfl rfl rfl) rfl rfl rfl ?_
                          | refine rr_read (r_loadA rfl rfl rfl (Rd.at (by assumption) (by assumption)) rfl) rfl rfl rfl ?_
                        refine rr_pure (rp rfl) rfl rfl rfl ?_
                        refine rr_eff (r_callF rfl rfl rfl (c31 (j := 12) rfl hl.symm (by omega) (by omega))) rfl rfl rfl (by simp) ?_
                        refine rr_pure (rp rfl) rfl rfl rfl ?_
                        refine rr_nil rfl ?_
                        refine then_n ?_
                        refine aw_seq ?_
                        refine aw_here [(2, sC v''), (3, pL (H.length + 0)), (4, pL (H.length + 1)), (8, pL (H.length + 6)), (9, some (Vb true)), (10, pL (H.length + 8)), (11, pL (H.length + 10)), (12, sC (.sl (.l (H.length + 11)) 0 rs.length rs.length true)), (13, pL (H.length + 13)), (14, some (Vb true)), (16, sI (1 + cp.length))] [some ⟨(aF w h v).cells, true, 0⟩, some ⟨(aF w' h' v').cells, true, 0⟩, bI xs, bI ys, bI rs, bI cp, some ⟨(aF w h (.sl (.l (H.length + 5)) 0 xs.length xs.length false)).cells, true, 0⟩, bI (mk 1 xs.length), some ⟨(aF w h (.sl (.l (H.length + 7)) 0 xs.length xs.length true)).cells, true, 0⟩, bI (mk (1 + xs.length) ys.length), some ⟨(aF w' h' (.sl (.l (H.length + 9)) 0 ys.length ys.length true)).cells, true, 0⟩, bI (mk (1 + xs.length + ys.length) rs.length), bI (mk 1 cp.length), some ⟨(aF w h (.sl (.l (H.length + 12)) 0 xs.length xs.length false)).cells, true, 0⟩, bI xs, bI ys, bI rs] (by repeat (first | exact Sub.nil _ | refine Sub.cons rfl ?_)) rfl ?_
                        refine aw_region ?_
                        refine rr_pure (rp rfl) rfl rfl rfl ?_
                        refine rr_nil rfl ?_
                        refine then_n ?_
                        refine aw_seq ?_
                        refine aw_region ?_
                        first
                          | refine rr_read (r_loadL rfl rfl rfl rfl rfl) rfl rfl rfl ?_
                          | refine rr_read (r_loadA rfl rfl rfl (Rd.at (by assumption) (by assumption)) rfl) rfl rfl rfl ?_
                        refine rr_pure (rp rfl) rfl rfl rfl ?_
                        refine rr_read (r_callF rfl rfl rfl (c32m _ (Rd.own (j := 12) lI rfl (by rw [mk_length, hl])) (by omega) (by omega))) rfl rfl rfl  ?_
                        refine rr_pure (rp rfl) rfl rfl rfl ?_
                        refine rr_nil rfl ?_
                        refine then_n ?_
                        refine aw_seq ?_
                        refine aw_seq ?_
                        refine aw_region ?_
                        refine rr_pure (rp rfl) rfl rfl rfl ?_
                        refine rr_pure (rp rfl) rfl rfl rfl ?_
                        refine rr_nil rfl ?_
                        refine then_n ?_
                        refine aw_cond rfl (fun b15 => ?_) (fun b15 => ?_)
                        · have b15p := b15; try simp only [decide_eq_true_eq, decide_eq_false_iff_not, Bool.not_eq_true', Bool.not_eq_false', bne_iff_ne, ne_eq, bne_eq_false_iff_eq, beq_iff_eq, beq_eq_false_iff_ne, Int.natCast_inj] at b15p
                          refine aw_seq ?_
                          refine aw_region ?_
                          refine rr_pure (rp rfl) rfl rfl rfl ?_
                          refine rr_nil rfl ?_
                          refine then_n ?_
                          refine aw_ret ?_
                          refine then_r ?_
                          first | exact fin_r rfl rfl rfl rfl | (exfalso; omega) | (exfalso; simp_all; done)
                        · have b15p := b15; try simp only [decide_eq_true_eq, decide_eq_false_iff_not, Bool.not_eq_true', Bool.not_eq_false', bne_iff_ne, ne_eq, bne_eq_false_iff_eq, beq_iff_eq, beq_eq_false_iff_ne, Int.natCast_inj] at b15p
                          refine aw_skip ?_
                          refine then_n ?_
                          refine aw_seq ?_
                          refine aw_seq ?_
                          refine aw_here [(2, sC v''), (3, pL (H.length + 0)), (4, pL (H.length + 1)), (8, pL (H.length + 6)), (9, some (Vb true)), (10, pL (H.length + 8)), (11, pL (H.length + 10)), (12, sC (.sl (.l (H.length + 11)) 0 rs.length rs.length true)), (13, pL (H.length + 13)), (14, some (Vb true)), (16, sI (1 + cp.length)), (17, sI (1 + cp.length))] [some ⟨(aF w h v).cells, true, 0⟩, some ⟨(aF w' h' v').cells, true, 0⟩, bI xs, bI ys, bI rs, bI cp, some ⟨(aF w h (.sl (.l (H.length + 5)) 0 xs.length xs.length false)).cells, true, 0⟩, bI (mk 1 xs.length), some ⟨(aF w h (.sl (.l (H.length + 7)) 0 xs.length xs.length true)).cells, true, 0⟩, bI (mk (1 + xs.length) ys.length), some ⟨(aF w' h' (.sl (.l (H.length + 9)) 0 ys.length ys.length true)).cells, true, 0⟩, bI (mk (1 + xs.length + ys.length) rs.length), bI (mk 1 cp.length), some ⟨(aF w h (.sl (.l (H.length + 12)) 0 xs.length xs.length false)).cells, true, 0⟩, bI xs, bI ys, bI rs] (by repeat (first | exact Sub.nil _ | refine Sub.cons rfl ?_)) rfl ?_
                          refine aw_region ?_
                          refine rr_pure (rp rfl) rfl rfl rfl ?_
                          refine rr_pure (rp rfl) rfl rfl rfl ?_
                          refine rr_pure (rp rfl) rfl rfl rfl ?_
                          refine rr_nil rfl ?_
                          refine then_n ?_
                          refine aw_cond rfl (fun b16 => ?_) (fun b16 => ?_)
                          · have b16p := b16; try simp only [decide_eq_true_eq, decide_eq_false_iff_not, Bool.not_eq_true', Bool.not_eq_false', bne_iff_ne, ne_eq, bne_eq_false_iff_eq, beq_iff_eq, beq_eq_false_iff_ne, Int.natCast_inj] at b16p
                            refine aw_seq ?_
                            refine aw_region ?_
                            refine rr_pure (rp rfl) rfl rfl rfl ?_
                            refine rr_nil rfl ?_
                            refine then_n ?_
                            refine aw_ret ?_
                            refine then_r ?_
                            first | exact fin_r rfl rfl rfl rfl | (exfalso; omega) | (exfalso; simp_all; done)
                          · have b16p := b16; try simp only [decide_eq_true_eq, decide_eq_false_iff_not, Bool.not_eq_true', Bool.not_eq_false', bne_iff_ne, ne_eq, bne_eq_false_iff_eq, beq_iff_eq, beq_eq_false_iff_ne, Int.natCast_inj] at b16p
                            refine aw_skip ?_
                            refine then_n ?_
                            refine aw_seq ?_
                            refine aw_here [(2, sC v''), (3, pL (H.length + 0)), (4, pL (H.length + 1)), (8, pL (H.length + 6)), (9, some (Vb true)), (10, pL (H.length + 8)), (11, pL (H.length + 10)), (12, sC (.sl (.l (H.length + 11)) 0 rs.length rs.length true)), (13, pL (H.length + 13)), (14, some (Vb true)), (16, sI (1 + cp.length)), (17, sI (1 + cp.length))] [some ⟨(aF w h v).cells, true, 0⟩, some ⟨(aF w' h' v').cells, true, 0⟩, bI xs, bI ys, bI rs, bI cp, some ⟨(aF w h (.sl (.l (H.length + 5)) 0 xs.length xs.length false)).cells, true, 0⟩, bI (mk 1 xs.length), some ⟨(aF w h (.sl (.l (H.length + 7)) 0 xs.length xs.length true)).cells, true, 0⟩, bI (mk (1 + xs.length) ys.length), some ⟨(aF w' h' (.sl (.l (H.length + 9)) 0 ys.length ys.length true)).cells, true, 0⟩, bI (mk (1 + xs.length + ys.length) rs.length), bI (mk 1 cp.length), some ⟨(aF w h (.sl (.l (H.length + 12)) 0 xs.length xs.length false)).cells, true, 0⟩, bI xs, bI ys, bI rs] (by repeat (first | exact Sub.nil _ | refine Sub.cons rfl ?_)) rfl ?_
                            refine aw_region_draw ?_
                            first
                              | refine rr_read (r_loadL rfl rfl rfl rfl rfl) rfl rfl rfl ?_
                              | refine rr_read (r_loadA rfl rfl rfl (Rd.at (by assumption) (by assumption)) rfl) rfl rfl rfl ?_
                            refine rr_memL (r_callF rfl rfl rfl (c28 List.length_append (by first | exact hr.app | exact hr'.app) (by omega))) rfl rfl rfl  ?_
                            first
                              | refine rr_read (r_loadL rfl rfl rfl rfl rfl) rfl rfl rfl ?_
                              | refine rr_read (r_loadA rfl rfl rfl (Rd.at (by assumption) (by assumption)) rfl) rfl rfl rfl ?_
                            refine rr_memL (r_callF rfl rfl rfl (c28 List.length_append (by first | exact hr.app | exact hr'.app) (by omega))) rfl rfl rfl  ?_
                            refine rr_pure (rp rfl) rfl rfl rfl ?_
                            refine rr_memL (r_callF rfl rfl rfl (c8 List.length_append hr''.app (by omega))) rfl rfl rfl  ?_
                            refine rr_memL (r_callF rfl rfl rfl (hcp ▸ c29s List.length_append (Rd.own (j := 17) lI rfl rfl) (Rd.own (j := 18) lI rfl rfl) (Rd.own (j := 19) lI rfl rfl) (by omega) (by omega) (by omega) (cond_same.trans hc))) rfl rfl rfl  ?_
                            refine rr_pure (rp rfl) rfl rfl rfl ?_
                            refine rr_pure (rp rfl) rfl rfl rfl ?_
                            refine rr_pure (rp rfl) rfl rfl rfl ?_
                            refine rr_memL (r_allocL rfl rfl) rfl rfl rfl ?_
                            refine rr_eff (r_storeL rfl rfl rfl rfl rfl rfl rfl (Nat.le_of_ble_eq_true rfl)) rfl rfl rfl (by simp) ?_
                            refine rr_pure (rp rfl) rfl rfl rfl ?_
                            refine rr_nil (by kernel_rfl) ?_
                            refine then_n ?_
                            refine aw_seq ?_
                            refine aw_seq ?_
                            refine aw_here [(2, sC v''), (3, pL (H.length + 0)), (4, pL (H.length + 1)), (8, pL (H.length + 6)), (9, some (Vb true)), (10, pL (H.length + 8)), (11, pL (H.length + 10)), (12, sC (.sl (.l (H.length + 11)) 0 rs.length rs.length true)), (13, pL (H.length + 13)), (14, some (Vb true)), (16, sI (1 + cp.length)), (17, sI (1 + cp.length)), (18, pL (H.length + 21)), (19, some (Vb true))] [some ⟨(aF w h v).cells, true, 0⟩, some ⟨(aF w' h' v').cells, true, 0⟩, bI xs, bI ys, bI rs, bI cp, some ⟨(aF w h (.sl (.l (H.length + 5)) 0 xs.length xs.length false)).cells, true, 0⟩, bI (mk 1 xs.length), some ⟨(aF w h (.sl (.l (H.length + 7)) 0 xs.length xs.length true)).cells, true, 0⟩, bI (mk (1 + xs.length) ys.length), some ⟨(aF w' h' (.sl (.l (H.length + 9)) 0 ys.length ys.length true)).cells, true, 0⟩, bI (mk (1 + xs.length + ys.length) rs.length), bI (mk 1 cp.length), some ⟨(aF w h (.sl (.l (H.length + 12)) 0 xs.length xs.length false)).cells, true, 0⟩, bI xs, bI ys, bI rs, bI xs, bI ys, bI rs, bI cp, some ⟨(aF w h (.sl (.l (H.length + 20)) 0 xs.length xs.length false)).cells, true, 0⟩] (by repeat (first | exact Sub.nil _ | refine Sub.cons rfl ?_)) rfl ?_
                            refine aw_region ?_
                            first
                              | refine rr_read (r_loadL rfl rfl rfl rfl rfl) rfl rfl rfl ?_
                              | refine rr_read (r_loadA rfl rfl rfl (Rd.at (by assumption) (by assumption)) rfl) rfl rfl rfl ?_
                            first
                              | refine rr_read (r_loadL rfl rfl rfl rfl rfl) rfl rfl rfl ?_
                              | refine rr_read (r_loadA rfl rfl rfl (Rd.at (by assumption) (by assumption)) rfl) rfl rfl rfl ?_
                            refine rr_read (r_callF rfl rfl rfl (c30 _  (Rd.own (j := 20) lI rfl hl.symm) (Rd.own (j := 5) lI rfl hl.symm) (by omega) (by omega))) rfl rfl rfl  ?_
                            refine rr_pure (rp rfl) rfl rfl rfl ?_
                            refine rr_pure (rp rfl) rfl rfl rfl ?_
                            refine rr_split rfl (fun g17 => ?_) (fun g17 => ?_)
                            · have g17p := g17; try simp only [decide_eq_true_eq, decide_eq_false_iff_not, Bool.not_eq_true', Bool.not_eq_false', bne_iff_ne, ne_eq, bne_eq_false_iff_eq, beq_iff_eq, beq_eq_false_iff_ne, Int.natCast_inj] at g17p
                              refine rr_skip rfl rfl g17 ?_
                              refine rr_skip rfl rfl g17 ?_
                              refine rr_skip rfl rfl g17 ?_
                              refine rr_pure (r_pick_t rfl rfl g17 rfl) rfl rfl rfl ?_
                              refine rr_nil rfl ?_
                              refine then_n ?_
                              refine aw_cond rfl (fun _ => ?_) (fun b18 => by first | cases b18 | (rw [b18] at b18; cases b18) | simp_all)
                              refine aw_seq ?_
                              refine aw_region ?_
                              refine rr_pure (rp rfl) rfl rfl rfl ?_
                              refine rr_nil rfl ?_
                              refine then_n ?_
                              refine aw_ret ?_
                              refine then_r ?_
                              first | exact fin_r rfl rfl rfl rfl | (exfalso; omega) | (exfalso; simp_all; done)
                            · have g17p := g17; try simp only [decide_eq_true_eq, decide_eq_false_iff_not, Bool.not_eq_true', Bool.not_eq_false', bne_iff_ne, ne_eq, bne_eq_false_iff_eq, beq_iff_eq, beq_eq_false_iff_ne, Int.natCast_inj] at g17p
                              refine rr_pure (rp rfl) rfl rfl g17 ?_
                              refine rr_pure (rp rfl) rfl rfl g17 ?_
                              refine rr_pure (r_bbin (.inr rfl) rfl rfl rfl rfl) rfl rfl g17 ?_
                              refine rr_pure (r_pick_f rfl rfl g17 rfl) rfl rfl rfl ?_
                              refine rr_nil rfl ?_
                              refine then_n ?_
                              refine aw_cond rfl (fun b19 => ?_) (fun b19 => ?_)
                              · have b19p := b19; try simp only [decide_eq_true_eq, decide_eq_false_iff_not, Bool.not_eq_true', Bool.not_eq_false', bne_iff_ne, ne_eq, bne_eq_false_iff_eq, beq_iff_eq, beq_eq_false_iff_ne, Int.natCast_inj] at b19p
                                refine aw_seq ?_
                                refine aw_region ?_
                                refine rr_pure (rp rfl) rfl rfl rfl ?_
                                refine rr_nil rfl ?_
                                refine then_n ?_
                                refine aw_ret ?_
                                refine then_r ?_
                                first | exact fin_r rfl rfl rfl rfl | (exfalso; omega) | (exfalso; simp_all; done)
                              · have b19p := b19; try simp only [decide_eq_true_eq, decide_eq_false_iff_not, Bool.not_eq_true', Bool.not_eq_false', bne_iff_ne, ne_eq, bne_eq_false_iff_eq, beq_iff_eq, beq_eq_false_iff_ne, Int.natCast_inj] at b19p
                                refine aw_skip ?_
                                refine then_n ?_
                                refine aw_seq ?_
                                refine aw_here [(2, sC v''), (3, pL (H.length + 0)), (4, pL (H.length + 1)), (8, pL (H.length + 6)), (9, some (Vb true)), (10, pL (H.length + 8)), (11, pL (H.length + 10)), (12, sC (.sl (.l (H.length + 11)) 0 rs.length rs.length true)), (13, pL (H.length + 13)), (14, some (Vb true)), (16, sI (1 + cp.length)), (17, sI (1 + cp.length)), (18, pL (H.length + 21)), (19, some (Vb true))] [some ⟨(aF w h v).cells, true, 0⟩, some ⟨(aF w' h' v').cells, true, 0⟩, bI xs, bI ys, bI rs, bI cp, some ⟨(aF w h (.sl (.l (H.length + 5)) 0 xs.length xs.length false)).cells, true, 0⟩, bI (mk 1 xs.length), some ⟨(aF w h (.sl (.l (H.length + 7)) 0 xs.length xs.length true)).cells, true, 0⟩, bI (mk (1 + xs.length) ys.length), some ⟨(aF w' h' (.sl (.l (H.length + 9)) 0 ys.length ys.length true)).cells, true, 0⟩, bI (mk (1 + xs.length + ys.length) rs.length), bI (mk 1 cp.length), some ⟨(aF w h (.sl (.l (H.length + 12)) 0 xs.length xs.length false)).cells, true, 0⟩, bI xs, bI ys, bI rs, bI xs, bI ys, bI rs, bI cp, some ⟨(aF w h (.sl (.l (H.length + 20)) 0 xs.length xs.length false)).cells, true, 0⟩] (by repeat (first | exact Sub.nil _ | refine Sub.cons rfl ?_)) rfl ?_
                                refine aw_region ?_
                                refine rr_pure (rp rfl) rfl rfl rfl ?_
                                refine rr_nil rfl ?_
                                refine then_n ?_
                                refine aw_seq ?_
                                refine aw_region ?_
                                first
                                  | refine rr_read (r_loadL rfl rfl rfl rfl rfl) rfl rfl rfl ?_
                                  | refine rr_read (r_loadA rfl rfl rfl (Rd.at (by assumption) (by assumption)) rfl) rfl rfl rfl ?_
                                refine rr_pure (rp rfl) rfl rfl rfl ?_
                                refine rr_read (r_callF rfl rfl rfl (c32m _ (Rd.own (j := 12) lI rfl (by rw [mk_length, hl])) (by omega) (by omega))) rfl rfl rfl  ?_
                                refine rr_pure (rp rfl) rfl rfl rfl ?_
                                refine rr_nil rfl ?_
                                refine then_n ?_
                                refine aw_seq ?_
                                refine aw_seq ?_
                                refine aw_region ?_
                                refine rr_pure (rp rfl) rfl rfl rfl ?_
                                refine rr_pure (rp rfl) rfl rfl rfl ?_
                                refine rr_nil rfl ?_
                                refine then_n ?_
                                refine aw_cond rfl (fun b20 => ?_) (fun b20 => ?_)
                                · have b20p := b20; try simp only [decide_eq_true_eq, decide_eq_false_iff_not, Bool.not_eq_true', Bool.not_eq_false', bne_iff_ne, ne_eq, bne_eq_false_iff_eq, beq_iff_eq, beq_eq_false_iff_ne, Int.natCast_inj] at b20p
                                  refine aw_seq ?_
                                  refine aw_region ?_
                                  refine rr_pure (rp rfl) rfl rfl rfl ?_
                                  refine rr_nil rfl ?_
                                  refine then_n ?_
                                  refine aw_ret ?_
                                  refine then_r ?_
                                  first | exact fin_r rfl rfl rfl rfl | (exfalso; omega) | (exfalso; simp_all; done)
                                · have b20p := b20; try simp only [decide_eq_true_eq, decide_eq_false_iff_not, Bool.not_eq_true', Bool.not_eq_false', bne_iff_ne, ne_eq, bne_eq_false_iff_eq, beq_iff_eq, beq_eq_false_iff_ne, Int.natCast_inj] at b20p
                                  refine aw_skip ?_
                                  refine then_n ?_
                                  refine aw_seq ?_
                                  refine aw_seq ?_
                                  refine aw_region ?_
                                  refine rr_pure (rp rfl) rfl rfl rfl ?_
                                  refine rr_pure (rp rfl) rfl rfl rfl ?_
                                  refine rr_pure (rp rfl) rfl rfl rfl ?_
                                  refine rr_nil rfl ?_
                                  refine then_n ?_
                                  refine aw_cond rfl (fun b21 => ?_) (fun b21 => ?_)
                                  · have b21p := b21; try simp only [decide_eq_true_eq, decide_eq_false_iff_not, Bool.not_eq_true', Bool.not_eq_false', bne_iff_ne, ne_eq, bne_eq_false_iff_eq, beq_iff_eq, beq_eq_false_iff_ne, Int.natCast_inj] at b21p
                                    refine aw_seq ?_
                                    refine aw_region ?_
                                    refine rr_pure (rp rfl) rfl rfl rfl ?_
                                    refine rr_nil rfl ?_
                                    refine then_n ?_
                                    refine aw_ret ?_
                                    refine then_r ?_
                                    first | exact fin_r rfl rfl rfl rfl | (exfalso; omega) | (exfalso; simp_all; done)
                                  · have b21p := b21; try simp only [decide_eq_true_eq, decide_eq_false_iff_not, Bool.not_eq_true', Bool.not_eq_false', bne_iff_ne, ne_eq, bne_eq_false_iff_eq, beq_iff_eq, beq_eq_false_iff_ne, Int.natCast_inj] at b21p
                                    refine aw_skip ?_
                                    refine then_n ?_
                                    refine aw_seq ?_
                                    refine aw_region ?_
                                    refine rr_pure (rp rfl) rfl rfl rfl ?_
                                    refine rr_nil rfl ?_
                                    refine then_n ?_
                                    refine aw_ret ?_
                                    first | exact fin_r rfl rfl rfl rfl | (exfalso; omega) | (exfalso; simp_all; done)
end Go.Proofs.Ytjjoigokeicneaa
