/- New consoles, and the law on them. -/
import Derived.Test.YtneoihnljollaaaLY
namespace Go.Proofs.Ytneoihnljollaaa
open Go.Aw
set_option maxRecDepth 100000
set_option maxHeartbeats 4000000
set_option linter.unusedSimpArgs false
set_option linter.unusedVariables false
abbrev e0 : ByteArray := ⟨#[]⟩
theorem c11 {H L : Heap} {j : Nat} {xs : List Wn} {d p : ByteArray} {m k : Int} {n lo : Nat} {ex : Bool} (hj : L[j]? = some (bW xs)) (hn : n = xs.length) (hb : xs.length ≤ 2 ^ 40) (hk : 0 ≤ k ∧ k ≤ 2 ^ 50) : ACalls cx 11 [aC (.sl (.l (H.length + j)) 0 n lo ex) d p m, aI k] (H ++ L) (Vi .i64 (k + 6 * xs.length)) (H ++ L.set j (bW (mkW k xs.length))) := by
  refine acallsM hj (flat_plain pW _) Try.func11 rfl rfl (fun S hS hw => ?_)
  refine aw_seq ?_
  refine aw_region ?_
  refine rr_memL (r_boxL rfl rfl) rfl rfl rfl ?_
  refine rr_pure (rp rfl) rfl rfl rfl ?_
  refine rr_nil rfl ?_
  refine then_n ?_
  refine aw_seq ?_
  refine aw_region ?_
  refine rr_pure (rp rfl) rfl rfl rfl ?_
  refine rr_read (r_loadL rfl rfl rfl (ldL_last rfl) rfl) rfl rfl rfl ?_
  refine rr_pure (rp rfl) rfl rfl rfl ?_
  refine rr_eff (r_callF rfl rfl rfl (c10 (at_left hj) hn hb hk)) rfl rfl rfl (by simp) ?_
  refine rr_pure (rp rfl) rfl rfl rfl ?_
  refine rr_nil rfl ?_
  refine then_n ?_
  refine aw_seq ?_
  refine aw_region ?_
  refine rr_pure (rp rfl) rfl rfl rfl ?_
  refine rr_pure (rp rfl) rfl rfl rfl ?_
  refine rr_nil rfl ?_
  refine then_n ?_
  refine aw_ret ?_
  exact fin_iM (by rw [set_left hj, ← List.append_assoc]) (resA_tmp rfl resA_nil) rfl
theorem c11n (H : Heap) {d p : ByteArray} {m k : Int} : ACalls cx 11 [aC .ns d p m, aI k] H (Vi .i64 k) H := by
  refine acalls0 Try.func11 rfl rfl (fun S hS hw => ?_)
  refine aw_seq ?_
  refine aw_region ?_
  refine rr_memL (r_boxL rfl rfl) rfl rfl rfl ?_
  refine rr_pure (rp rfl) rfl rfl rfl ?_
  refine rr_nil rfl ?_
  refine then_n ?_
  refine aw_seq ?_
  refine aw_region ?_
  refine rr_pure (rp rfl) rfl rfl rfl ?_
  first
    | refine rr_read (r_loadL rfl rfl rfl rfl rfl) rfl rfl rfl ?_
    | refine rr_read (r_loadA rfl rfl rfl (Rd.at (by assumption) (by assumption)) rfl) rfl rfl rfl ?_
  refine rr_pure (rp rfl) rfl rfl rfl ?_
  refine rr_read (r_callF rfl rfl rfl (c10n _)) rfl rfl rfl  ?_
  refine rr_pure (rp rfl) rfl rfl rfl ?_
  refine rr_nil rfl ?_
  refine then_n ?_
  refine aw_seq ?_
  refine aw_region ?_
  refine rr_pure (rp rfl) rfl rfl rfl ?_
  refine rr_pure (rp rfl) rfl rfl rfl ?_
  refine rr_nil rfl ?_
  refine then_n ?_
  refine aw_ret ?_
  exact fin_i rfl rfl
theorem c12 (H : Heap) {v : AC} {n : Nat} {d p : ByteArray} {m k : Int} (hr : Rd cx H 6 eW v (mkW k n)) (hn : n ≤ 2 ^ 40) (hk : 0 ≤ k ∧ k ≤ 2 ^ 50) : ACalls cx 12 [aC v d p m, aI k] H (Vi .i64 (k + 6 * n)) H := by
  refine acalls0 Try.func12 rfl rfl (fun S hS hw => ?_)
  refine aw_seq ?_
  refine aw_region ?_
  refine rr_memL (r_boxL rfl rfl) rfl rfl rfl ?_
  refine rr_pure (rp rfl) rfl rfl rfl ?_
  refine rr_nil rfl ?_
  refine then_n ?_
  refine aw_seq ?_
  refine aw_region ?_
  refine rr_pure (rp rfl) rfl rfl rfl ?_
  first
    | refine rr_read (r_loadL rfl rfl rfl rfl rfl) rfl rfl rfl ?_
    | refine rr_read (r_loadA rfl rfl rfl (Rd.at (by assumption) (by assumption)) rfl) rfl rfl rfl ?_
  refine rr_pure (rp rfl) rfl rfl rfl ?_
  refine rr_read (r_callF rfl rfl rfl (c20 _ hr.app hn hk)) rfl rfl rfl  ?_
  refine rr_pure (rp rfl) rfl rfl rfl ?_
  refine rr_nil rfl ?_
  refine then_n ?_
  refine aw_seq ?_
  refine aw_seq ?_
  refine aw_region ?_
  refine rr_pure (rp rfl) rfl rfl rfl ?_
  refine rr_pure (rp rfl) rfl rfl rfl ?_
  refine rr_nil rfl ?_
  refine then_n ?_
  refine aw_cond rfl (fun b1 => ?_) (fun b1 => ?_)
  · have b1p := b1; try simp only [s_inj, decide_eq_true_eq, decide_eq_false_iff_not, Bool.not_eq_true', Bool.not_eq_false', bne_iff_ne, ne_eq, bne_eq_false_iff_eq, beq_iff_eq, beq_eq_false_iff_ne, Int.natCast_inj] at b1p
    exfalso; omega
  · have b1p := b1; try simp only [s_inj, decide_eq_true_eq, decide_eq_false_iff_not, Bool.not_eq_true', Bool.not_eq_false', bne_iff_ne, ne_eq, bne_eq_false_iff_eq, beq_iff_eq, beq_eq_false_iff_ne, Int.natCast_inj] at b1p
    refine aw_skip ?_
    refine then_n ?_
    refine aw_seq ?_
    refine aw_region ?_
    refine rr_pure (rp rfl) rfl rfl rfl ?_
    refine rr_pure (rp rfl) rfl rfl rfl ?_
    refine rr_nil rfl ?_
    refine then_n ?_
    refine aw_ret ?_
    exact fin_i rfl rfl
theorem c5f (H : Heap) {v : AC} {ws : List Wn} (hr : Rd cx H 6 eW v ws) (hn : ws.length ≤ 2 ^ 40) (hc : okList ws = false) : ACalls cx 5 [.c v] H (.tu [aC .ns e0 e0 0, aB false]) H := by
  refine acalls0 Try.func5 rfl rfl (fun S hS hw => ?_)
  refine aw_seq ?_
  refine aw_region ?_
  refine rr_memL (r_allocL rfl rfl) rfl rfl rfl ?_
  refine rr_pure (rp rfl) rfl rfl rfl ?_
  refine rr_nil rfl ?_
  refine then_n ?_
  refine aw_seq ?_
  refine aw_seq ?_
  refine aw_region ?_
  refine rr_pure (rp rfl) rfl rfl rfl ?_
  refine rr_read (r_callF rfl rfl rfl (c13 _ hr.app hn)) rfl rfl rfl  ?_
  refine rr_pure (rp rfl) rfl rfl rfl ?_
  refine rr_nil rfl ?_
  refine then_n ?_
  refine aw_cond rfl (fun b1 => ?_) (fun b1 => ?_)
  · have b1p := b1; try simp only [s_inj, decide_eq_true_eq, decide_eq_false_iff_not, Bool.not_eq_true', Bool.not_eq_false', bne_iff_ne, ne_eq, bne_eq_false_iff_eq, beq_iff_eq, beq_eq_false_iff_ne, Int.natCast_inj] at b1p
    refine aw_seq ?_
    refine aw_region ?_
    refine rr_pure (rp rfl) rfl rfl rfl ?_
    refine rr_eff (r_storeL rfl rfl rfl rfl rfl rfl rfl (Nat.le_of_ble_eq_true rfl)) rfl rfl rfl (by simp) ?_
    refine rr_pure (rp rfl) rfl rfl rfl ?_
    refine rr_nil rfl ?_
    refine then_n ?_
    refine aw_ret ?_
    refine then_r ?_
    exact fin_r (resA_cell rfl rfl rfl rfl (resA_tmp rfl resA_nil)) rfl rfl rfl
  · have b1p := b1; try simp only [s_inj, decide_eq_true_eq, decide_eq_false_iff_not, Bool.not_eq_true', Bool.not_eq_false', bne_iff_ne, ne_eq, bne_eq_false_iff_eq, beq_iff_eq, beq_eq_false_iff_ne, Int.natCast_inj] at b1p
    exfalso; rw [hc] at b1p; cases b1p
theorem c5s {H : Heap} {b : Nat} (hb : H.length = b) {v : AC} {ws : List Wn} (hr : Rd cx H 6 eW v ws) (hn : ws.length ≤ 2 ^ 40) (hc : okList ws = true) : ACalls cx 5 [.c v] H (.tu [aC (.sl (.l b) 0 ws.length ws.length false) e0 e0 0, aB true]) (H ++ [bW ws]) := by
  subst hb
  refine acallsN Try.func5 rfl rfl (fun S hS hw => ?_)
  refine aw_seq ?_
  refine aw_region ?_
  refine rr_memL (r_allocL rfl rfl) rfl rfl rfl ?_
  refine rr_pure (rp rfl) rfl rfl rfl ?_
  refine rr_nil rfl ?_
  refine then_n ?_
  refine aw_seq ?_
  refine aw_seq ?_
  refine aw_region ?_
  refine rr_pure (rp rfl) rfl rfl rfl ?_
  refine rr_read (r_callF rfl rfl rfl (c13 _ hr.app hn)) rfl rfl rfl  ?_
  refine rr_pure (rp rfl) rfl rfl rfl ?_
  refine rr_nil rfl ?_
  refine then_n ?_
  refine aw_cond rfl (fun b1 => ?_) (fun b1 => ?_)
  · have b1p := b1; try simp only [s_inj, decide_eq_true_eq, decide_eq_false_iff_not, Bool.not_eq_true', Bool.not_eq_false', bne_iff_ne, ne_eq, bne_eq_false_iff_eq, beq_iff_eq, beq_eq_false_iff_ne, Int.natCast_inj] at b1p
    exfalso; rw [hc] at b1p; cases b1p
  · have b1p := b1; try simp only [s_inj, decide_eq_true_eq, decide_eq_false_iff_not, Bool.not_eq_true', Bool.not_eq_false', bne_iff_ne, ne_eq, bne_eq_false_iff_eq, beq_iff_eq, beq_eq_false_iff_ne, Int.natCast_inj] at b1p
    refine aw_skip ?_
    refine then_n ?_
    refine aw_seq ?_
    refine aw_region ?_
    refine rr_pure (rp rfl) rfl rfl rfl ?_
    refine rr_memL (r_callF rfl rfl rfl (c14 List.length_append hr.app hn)) rfl rfl rfl  ?_
    refine rr_pure (rp rfl) rfl rfl rfl ?_
    refine rr_eff (r_storeL rfl rfl rfl rfl rfl rfl rfl (Nat.le_of_ble_eq_true rfl)) rfl rfl rfl (by simp) ?_
    refine rr_pure (rp rfl) rfl rfl rfl ?_
    refine rr_nil rfl ?_
    refine then_n ?_
    refine aw_ret ?_
    exact fin_mv [1] (resA_cell rfl rfl rfl rfl (resA_tmp rfl resA_nil)) (mv_one rfl (flat_plain pW ws)) (by simp [resT, AT.ren, AV.ren, AC.ren, renB_base]; rfl) (by simp [Lo, AT.ids, AV.ids, AC.ids])
theorem c7f (H : Heap) {v : AC} {ws : List Wn} (hr : Rd cx H 6 eW v ws) (hn : ws.length ≤ 2 ^ 40) (hc : okList ws = false) : ACalls cx 7 [.c v] H (.tu [aC .ns e0 e0 0, aB false]) H := by
  refine acalls0 Try.func7 rfl rfl (fun S hS hw => ?_)
  refine aw_seq ?_
  refine aw_region ?_
  refine rr_memL (r_allocL rfl rfl) rfl rfl rfl ?_
  refine rr_pure (rp rfl) rfl rfl rfl ?_
  refine rr_nil rfl ?_
  refine then_n ?_
  refine aw_seq ?_
  refine aw_seq ?_
  refine aw_region ?_
  refine rr_pure (rp rfl) rfl rfl rfl ?_
  refine rr_read (r_callF rfl rfl rfl (c16 _ hr.app hn)) rfl rfl rfl  ?_
  refine rr_pure (rp rfl) rfl rfl rfl ?_
  refine rr_nil rfl ?_
  refine then_n ?_
  refine aw_cond rfl (fun b1 => ?_) (fun b1 => ?_)
  · have b1p := b1; try simp only [s_inj, decide_eq_true_eq, decide_eq_false_iff_not, Bool.not_eq_true', Bool.not_eq_false', bne_iff_ne, ne_eq, bne_eq_false_iff_eq, beq_iff_eq, beq_eq_false_iff_ne, Int.natCast_inj] at b1p
    refine aw_seq ?_
    refine aw_region ?_
    refine rr_pure (rp rfl) rfl rfl rfl ?_
    refine rr_eff (r_storeL rfl rfl rfl rfl rfl rfl rfl (Nat.le_of_ble_eq_true rfl)) rfl rfl rfl (by simp) ?_
    refine rr_pure (rp rfl) rfl rfl rfl ?_
    refine rr_nil rfl ?_
    refine then_n ?_
    refine aw_ret ?_
    refine then_r ?_
    exact fin_r (resA_cell rfl rfl rfl rfl (resA_tmp rfl resA_nil)) rfl rfl rfl
  · have b1p := b1; try simp only [s_inj, decide_eq_true_eq, decide_eq_false_iff_not, Bool.not_eq_true', Bool.not_eq_false', bne_iff_ne, ne_eq, bne_eq_false_iff_eq, beq_iff_eq, beq_eq_false_iff_ne, Int.natCast_inj] at b1p
    exfalso; rw [hc] at b1p; cases b1p
theorem c7s {H : Heap} {b : Nat} (hb : H.length = b) {bd : Bid} {off n lo : Nat} {ex : Bool} {ws : List Wn} (hr : Rd cx H 6 eW (.sl bd off n lo ex) ws) (hn : ws.length ≤ 2 ^ 40) (hc : okList ws = true) : ACalls cx 7 [.c (.sl bd off n lo ex)] H (.tu [aC (.sl (.l b) 0 ws.length ws.length false) e0 e0 0, aB true]) (H ++ [bW ws]) := by
  subst hb
  refine acallsN Try.func7 rfl rfl (fun S hS hw => ?_)
  refine aw_seq ?_
  refine aw_region ?_
  refine rr_memL (r_allocL rfl rfl) rfl rfl rfl ?_
  refine rr_pure (rp rfl) rfl rfl rfl ?_
  refine rr_nil rfl ?_
  refine then_n ?_
  refine aw_seq ?_
  refine aw_seq ?_
  refine aw_region ?_
  refine rr_pure (rp rfl) rfl rfl rfl ?_
  refine rr_read (r_callF rfl rfl rfl (c16 _ hr.app hn)) rfl rfl rfl  ?_
  refine rr_pure (rp rfl) rfl rfl rfl ?_
  refine rr_nil rfl ?_
  refine then_n ?_
  refine aw_cond rfl (fun b1 => ?_) (fun b1 => ?_)
  · have b1p := b1; try simp only [s_inj, decide_eq_true_eq, decide_eq_false_iff_not, Bool.not_eq_true', Bool.not_eq_false', bne_iff_ne, ne_eq, bne_eq_false_iff_eq, beq_iff_eq, beq_eq_false_iff_ne, Int.natCast_inj] at b1p
    exfalso; rw [hc] at b1p; cases b1p
  · have b1p := b1; try simp only [s_inj, decide_eq_true_eq, decide_eq_false_iff_not, Bool.not_eq_true', Bool.not_eq_false', bne_iff_ne, ne_eq, bne_eq_false_iff_eq, beq_iff_eq, beq_eq_false_iff_ne, Int.natCast_inj] at b1p
    refine aw_skip ?_
    refine then_n ?_
    refine aw_seq ?_
    refine aw_region ?_
    refine rr_pure (rp rfl) rfl rfl rfl ?_
    refine rr_memL (r_callF rfl rfl rfl (c17 List.length_append hr.app hn)) rfl rfl rfl  ?_
    refine rr_pure (rp rfl) rfl rfl rfl ?_
    refine rr_eff (r_storeL rfl rfl rfl rfl rfl rfl rfl (Nat.le_of_ble_eq_true rfl)) rfl rfl rfl (by simp) ?_
    refine rr_pure (rp rfl) rfl rfl rfl ?_
    refine rr_nil rfl ?_
    refine then_n ?_
    refine aw_ret ?_
    exact fin_mv [1] (resA_cell rfl rfl rfl rfl (resA_tmp rfl resA_nil)) (mv_one rfl (flat_plain pW ws)) (by simp [resT, AT.ren, AV.ren, AC.ren, renB_base]; rfl) (by simp [Lo, AT.ids, AV.ids, AC.ids])
theorem sz_len {n : Nat} (h : ¬ szI n 1048576 < 0) : (n : Int) ≤ 1048576 := by have := sz_le (left := 1048576) h (by omega); omega
theorem c3s (H : Heap) {v : AC} {ws : List Wn} (hr : Rd cx H 6 eW v ws) (hn : ws.length ≤ 2 ^ 44) (hc : okList ws = true) : ACalls cx 3 [.c v] H (Vb true) H := by
  refine acalls0 Try.func3 rfl rfl (fun S hS hw => ?_)
  refine aw_seq ?_
  refine aw_region ?_
  refine rr_pure (rp rfl) rfl rfl rfl ?_
  refine rr_nil rfl ?_
  refine then_n ?_
  refine aw_seq ?_
  refine aw_region ?_
  refine rr_pure (rp rfl) rfl rfl rfl ?_
  refine rr_nil rfl ?_
  refine then_n ?_
  refine aw_seq ?_
  refine aw_region ?_
  refine rr_pure (rp rfl) rfl rfl rfl ?_
  refine rr_pure (rp rfl) rfl rfl rfl ?_
  refine rr_read (r_callF rfl rfl rfl (c4 _ ⟨_, _, hr⟩ (by omega) (by omega))) rfl rfl rfl  ?_
  refine rr_pure (rp rfl) rfl rfl rfl ?_
  refine rr_nil rfl ?_
  refine then_n ?_
  refine aw_seq ?_
  refine aw_seq ?_
  refine aw_region ?_
  refine rr_pure (rp rfl) rfl rfl rfl ?_
  refine rr_pure (rp rfl) rfl rfl rfl ?_
  refine rr_nil rfl ?_
  refine then_n ?_
  refine aw_cond rfl (fun b1 => ?_) (fun b1 => ?_)
  · have b1p := b1; try simp only [s_inj, decide_eq_true_eq, decide_eq_false_iff_not, Bool.not_eq_true', Bool.not_eq_false', bne_iff_ne, ne_eq, bne_eq_false_iff_eq, beq_iff_eq, beq_eq_false_iff_ne, Int.natCast_inj] at b1p
    refine aw_seq ?_
    refine aw_region ?_
    refine rr_pure (rp rfl) rfl rfl rfl ?_
    refine rr_nil rfl ?_
    refine then_n ?_
    refine aw_ret ?_
    refine then_r ?_
    first | exact fin_r rfl rfl rfl rfl | (exfalso; omega) | (exfalso; simp_all; done)
  · have b1p := b1; try simp only [s_inj, decide_eq_true_eq, decide_eq_false_iff_not, Bool.not_eq_true', Bool.not_eq_false', bne_iff_ne, ne_eq, bne_eq_false_iff_eq, beq_iff_eq, beq_eq_false_iff_ne, Int.natCast_inj] at b1p
    have hz := sz_len (n := ws.length) (by omega)
    refine aw_skip ?_
    refine then_n ?_
    refine aw_seq ?_
    refine aw_region ?_
    refine rr_pure (rp rfl) rfl rfl rfl ?_
    refine rr_memL (r_callF rfl rfl rfl (c6 List.length_append hr.app (by omega))) rfl rfl rfl  ?_
    refine rr_memL (r_callF rfl rfl rfl (c5s List.length_append (Rd.own (j := 0) lW rfl rfl) (by omega) hc)) rfl rfl rfl  ?_
    refine rr_pure (rp rfl) rfl rfl rfl ?_
    refine rr_pure (rp rfl) rfl rfl rfl ?_
    refine rr_pure (rp rfl) rfl rfl rfl ?_
    refine rr_memL (r_allocL rfl rfl) rfl rfl rfl ?_
    refine rr_eff (r_storeL rfl rfl rfl rfl rfl rfl rfl (Nat.le_of_ble_eq_true rfl)) rfl rfl rfl (by simp) ?_
    refine rr_pure (rp rfl) rfl rfl rfl ?_
    refine rr_nil rfl ?_
    refine then_n ?_
    refine aw_seq ?_
    refine aw_region ?_
    refine rr_pure (rp rfl) rfl rfl rfl ?_
    refine rr_memL (r_callF rfl rfl rfl (c6 List.length_append hr.app (by omega))) rfl rfl rfl  ?_
    refine rr_pure (rp rfl) rfl rfl rfl ?_
    refine rr_nil rfl ?_
    refine then_n ?_
    refine aw_seq ?_
    refine aw_here [(0, sC v), (4, pL (H.length + 2)), (5, sB true), (6, sC (.sl (.l (H.length + 3)) 0 ws.length ws.length true))] [bW ws, bW ws, some ⟨(aC (.sl (.l (H.length + 1)) 0 ws.length ws.length false) e0 e0 0).cells, true, 0⟩, bW ws] (by repeat (first | exact Sub.nil _ | refine Sub.cons rfl ?_)) rfl ?_
    refine aw_region ?_
    refine rr_pure (rp rfl) rfl rfl rfl ?_
    refine rr_memL (r_callF rfl rfl rfl (c7s List.length_append (Rd.own (j := 3) lW rfl rfl) (by omega) hc)) rfl rfl rfl  ?_
    refine rr_pure (rp rfl) rfl rfl rfl ?_
    refine rr_pure (rp rfl) rfl rfl rfl ?_
    refine rr_pure (rp rfl) rfl rfl rfl ?_
    refine rr_memL (r_allocL rfl rfl) rfl rfl rfl ?_
    refine rr_eff (r_storeL rfl rfl rfl rfl rfl rfl rfl (Nat.le_of_ble_eq_true rfl)) rfl rfl rfl (by simp) ?_
    refine rr_pure (rp rfl) rfl rfl rfl ?_
    refine rr_nil rfl ?_
    refine then_n ?_
    refine aw_seq ?_
    refine aw_seq ?_
    refine aw_here [(0, sC v), (4, pL (H.length + 2)), (5, sB true), (6, sC (.sl (.l (H.length + 3)) 0 ws.length ws.length true)), (7, pL (H.length + 5)), (8, sB true)] [bW ws, bW ws, some ⟨(aC (.sl (.l (H.length + 1)) 0 ws.length ws.length false) e0 e0 0).cells, true, 0⟩, bW ws, bW ws, some ⟨(aC (.sl (.l (H.length + 4)) 0 ws.length ws.length false) e0 e0 0).cells, true, 0⟩] (by repeat (first | exact Sub.nil _ | refine Sub.cons rfl ?_)) rfl ?_
    refine aw_region ?_
    first
      | refine rr_read (r_loadL rfl rfl rfl rfl rfl) rfl rfl rfl ?_
      | refine rr_read (r_loadA rfl rfl rfl (Rd.at (by assumption) (by assumption)) rfl) rfl rfl rfl ?_
    first
      | refine rr_read (r_loadL rfl rfl rfl rfl rfl) rfl rfl rfl ?_
      | refine rr_read (r_loadA rfl rfl rfl (Rd.at (by assumption) (by assumption)) rfl) rfl rfl rfl ?_
    refine rr_read (r_callF rfl rfl rfl (c8 _ (Rd.own (j := 4) lW rfl rfl) (Rd.own (j := 1) lW rfl rfl) (by omega) (by omega))) rfl rfl rfl  ?_
    refine rr_pure (rp rfl) rfl rfl rfl ?_
    refine rr_pure (rp rfl) rfl rfl rfl ?_
    refine rr_split rfl (fun g2 => ?_) (fun g2 => ?_)
    · have g2p := g2; try simp only [s_inj, decide_eq_true_eq, decide_eq_false_iff_not, Bool.not_eq_true', Bool.not_eq_false', bne_iff_ne, ne_eq, bne_eq_false_iff_eq, beq_iff_eq, beq_eq_false_iff_ne, Int.natCast_inj] at g2p
      refine rr_skip rfl rfl g2 ?_
      refine rr_skip rfl rfl g2 ?_
      refine rr_skip rfl rfl g2 ?_
      refine rr_pure (r_pick_t rfl rfl g2 rfl) rfl rfl rfl ?_
      refine rr_nil rfl ?_
      refine then_n ?_
      refine aw_cond rfl (fun _ => ?_) (fun b3 => by first | cases b3 | (rw [b3] at b3; cases b3) | simp_all)
      refine aw_seq ?_
      refine aw_region ?_
      refine rr_pure (rp rfl) rfl rfl rfl ?_
      refine rr_nil rfl ?_
      refine then_n ?_
      refine aw_ret ?_
      refine then_r ?_
      first | exact fin_r rfl rfl rfl rfl | (exfalso; omega) | (exfalso; simp_all; done)
    · have g2p := g2; try simp only [s_inj, decide_eq_true_eq, decide_eq_false_iff_not, Bool.not_eq_true', Bool.not_eq_false', bne_iff_ne, ne_eq, bne_eq_false_iff_eq, beq_iff_eq, beq_eq_false_iff_ne, Int.natCast_inj] at g2p
      refine rr_pure (rp rfl) rfl rfl g2 ?_
      refine rr_pure (rp rfl) rfl rfl g2 ?_
      refine rr_pure (r_bbin (.inr rfl) rfl rfl rfl rfl) rfl rfl g2 ?_
      refine rr_pure (r_pick_f rfl rfl g2 rfl) rfl rfl rfl ?_
      refine rr_nil rfl ?_
      refine then_n ?_
      refine aw_cond rfl (fun b4 => ?_) (fun b4 => ?_)
      · have b4p := b4; try simp only [s_inj, decide_eq_true_eq, decide_eq_false_iff_not, Bool.not_eq_true', Bool.not_eq_false', bne_iff_ne, ne_eq, bne_eq_false_iff_eq, beq_iff_eq, beq_eq_false_iff_ne, Int.natCast_inj] at b4p
        refine aw_seq ?_
        refine aw_region ?_
        refine rr_pure (rp rfl) rfl rfl rfl ?_
        refine rr_nil rfl ?_
        refine then_n ?_
        refine aw_ret ?_
        refine then_r ?_
        first | exact fin_r rfl rfl rfl rfl | (exfalso; omega) | (exfalso; simp_all; done)
      · have b4p := b4; try simp only [s_inj, decide_eq_true_eq, decide_eq_false_iff_not, Bool.not_eq_true', Bool.not_eq_false', bne_iff_ne, ne_eq, bne_eq_false_iff_eq, beq_iff_eq, beq_eq_false_iff_ne, Int.natCast_inj] at b4p
        refine aw_skip ?_
        refine then_n ?_
        refine aw_seq ?_
        refine aw_seq ?_
        refine aw_here [(0, sC v), (4, pL (H.length + 2)), (5, sB true), (6, sC (.sl (.l (H.length + 3)) 0 ws.length ws.length true)), (7, pL (H.length + 5)), (8, sB true)] [bW ws, bW ws, some ⟨(aC (.sl (.l (H.length + 1)) 0 ws.length ws.length false) e0 e0 0).cells, true, 0⟩, bW ws, bW ws, some ⟨(aC (.sl (.l (H.length + 4)) 0 ws.length ws.length false) e0 e0 0).cells, true, 0⟩] (by repeat (first | exact Sub.nil _ | refine Sub.cons rfl ?_)) rfl ?_
        refine aw_region ?_
        refine rr_pure (rp rfl) rfl rfl rfl ?_
        refine rr_pure (rp rfl) rfl rfl rfl ?_
        refine rr_memL (r_callF rfl rfl rfl (c6 List.length_append hr.app (by omega))) rfl rfl rfl  ?_
        refine rr_read (r_callF rfl rfl rfl (c9 _ (Rd.own (j := 3) lW rfl rfl) (Rd.own (j := 6) lW rfl rfl) (by omega) (by omega))) rfl rfl rfl  ?_
        refine rr_pure (rp rfl) rfl rfl rfl ?_
        refine rr_nil rfl ?_
        refine then_n ?_
        refine aw_cond rfl (fun b5 => ?_) (fun b5 => ?_)
        · have b5p := b5; try simp only [s_inj, decide_eq_true_eq, decide_eq_false_iff_not, Bool.not_eq_true', Bool.not_eq_false', bne_iff_ne, ne_eq, bne_eq_false_iff_eq, beq_iff_eq, beq_eq_false_iff_ne, Int.natCast_inj] at b5p
          refine aw_seq ?_
          refine aw_region ?_
          refine rr_pure (rp rfl) rfl rfl rfl ?_
          refine rr_nil rfl ?_
          refine then_n ?_
          refine aw_ret ?_
          refine then_r ?_
          first | exact fin_r rfl rfl rfl rfl | (exfalso; omega) | (exfalso; simp_all; done)
        · have b5p := b5; try simp only [s_inj, decide_eq_true_eq, decide_eq_false_iff_not, Bool.not_eq_true', Bool.not_eq_false', bne_iff_ne, ne_eq, bne_eq_false_iff_eq, beq_iff_eq, beq_eq_false_iff_ne, Int.natCast_inj] at b5p
          refine aw_skip ?_
          refine then_n ?_
          refine aw_seq ?_
          refine aw_region ?_
          refine rr_pure (rp rfl) rfl rfl rfl ?_
          refine rr_nil rfl ?_
          refine then_n ?_
          refine aw_seq ?_
          refine aw_here [(0, sC v), (4, pL (H.length + 2)), (5, sB true), (6, sC (.sl (.l (H.length + 3)) 0 ws.length ws.length true)), (7, pL (H.length + 5)), (8, sB true), (9, sI 1)] [bW ws, bW ws, some ⟨(aC (.sl (.l (H.length + 1)) 0 ws.length ws.length false) e0 e0 0).cells, true, 0⟩, bW ws, bW ws, some ⟨(aC (.sl (.l (H.length + 4)) 0 ws.length ws.length false) e0 e0 0).cells, true, 0⟩, bW ws] (by repeat (first | exact Sub.nil _ | refine Sub.cons rfl ?_)) rfl ?_
          refine aw_region ?_
          refine rr_pure (rp rfl) rfl rfl rfl ?_
          refine rr_pure (rp rfl) rfl rfl rfl ?_
          refine rr_eff (r_callF rfl rfl rfl (c10 (j := 3) rfl rfl (by omega) (by omega))) rfl rfl rfl (by simp) ?_
          refine rr_pure (rp rfl) rfl rfl rfl ?_
          refine rr_nil rfl ?_
          refine then_n ?_
          refine aw_seq ?_
          refine aw_seq ?_
          refine aw_here [(0, sC v), (4, pL (H.length + 2)), (5, sB true), (6, sC (.sl (.l (H.length + 3)) 0 ws.length ws.length true)), (7, pL (H.length + 5)), (8, sB true), (9, sI (1 + 6 * (ws.length : Int)))] [bW ws, bW ws, some ⟨(aC (.sl (.l (H.length + 1)) 0 ws.length ws.length false) e0 e0 0).cells, true, 0⟩, bW (mkW 1 ws.length), bW ws, some ⟨(aC (.sl (.l (H.length + 4)) 0 ws.length ws.length false) e0 e0 0).cells, true, 0⟩, bW ws] (by repeat (first | exact Sub.nil _ | refine Sub.cons rfl ?_)) rfl ?_
          refine aw_region ?_
          refine rr_pure (rp rfl) rfl rfl rfl ?_
          refine rr_pure (rp rfl) rfl rfl rfl ?_
          refine rr_pure (rp rfl) rfl rfl rfl ?_
          refine rr_split rfl (fun g6 => ?_) (fun g6 => ?_)
          · have g6p := g6; try simp only [s_inj, decide_eq_true_eq, decide_eq_false_iff_not, Bool.not_eq_true', Bool.not_eq_false', bne_iff_ne, ne_eq, bne_eq_false_iff_eq, beq_iff_eq, beq_eq_false_iff_ne, Int.natCast_inj] at g6p
            refine rr_skip rfl rfl g6 ?_
            refine rr_skip rfl rfl g6 ?_
            refine rr_skip rfl rfl g6 ?_
            refine rr_skip rfl rfl g6 ?_
            refine rr_pure (r_pick_t rfl rfl g6 rfl) rfl rfl rfl ?_
            refine rr_pure (rp rfl) rfl rfl rfl ?_
            refine rr_skip rfl rfl rfl ?_
            refine rr_skip rfl rfl rfl ?_
            refine rr_skip rfl rfl rfl ?_
            refine rr_pure (r_pick_t rfl rfl rfl rfl) rfl rfl rfl ?_
            refine rr_nil rfl ?_
            refine then_n ?_
            refine aw_cond rfl (fun _ => ?_) (fun b7 => by first | cases b7 | (rw [b7] at b7; cases b7) | simp_all)
            refine aw_seq ?_
            refine aw_region ?_
            refine rr_pure (rp rfl) rfl rfl rfl ?_
            refine rr_nil rfl ?_
            refine then_n ?_
            refine aw_ret ?_
            refine then_r ?_
            first | exact fin_r rfl rfl rfl rfl | (exfalso; omega) | (exfalso; simp_all; done)
          · have g6p := g6; try simp only [s_inj, decide_eq_true_eq, decide_eq_false_iff_not, Bool.not_eq_true', Bool.not_eq_false', bne_iff_ne, ne_eq, bne_eq_false_iff_eq, beq_iff_eq, beq_eq_false_iff_ne, Int.natCast_inj] at g6p
            first
              | refine rr_read (r_loadL rfl rfl rfl rfl rfl) rfl rfl g6 ?_
              | refine rr_read (r_loadA rfl rfl rfl (Rd.at (by assumption) (by assumption)) rfl) rfl rfl g6 ?_
            first
              | refine rr_read (r_loadL rfl rfl rfl rfl rfl) rfl rfl g6 ?_
              | refine rr_read (r_loadA rfl rfl rfl (Rd.at (by assumption) (by assumption)) rfl) rfl rfl g6 ?_
            refine rr_read (r_callF rfl rfl rfl (c8 _ (Rd.own (j := 4) lW rfl rfl) (Rd.own (j := 1) lW rfl rfl) (by omega) (by omega))) rfl rfl g6  ?_
            refine rr_pure (rp rfl) rfl rfl g6 ?_
            refine rr_pure (r_pick_f rfl rfl g6 rfl) rfl rfl rfl ?_
            refine rr_pure (rp rfl) rfl rfl rfl ?_
            refine rr_split rfl (fun g8 => ?_) (fun g8 => ?_)
            · have g8p := g8; try simp only [s_inj, decide_eq_true_eq, decide_eq_false_iff_not, Bool.not_eq_true', Bool.not_eq_false', bne_iff_ne, ne_eq, bne_eq_false_iff_eq, beq_iff_eq, beq_eq_false_iff_ne, Int.natCast_inj] at g8p
              refine rr_skip rfl rfl g8 ?_
              refine rr_skip rfl rfl g8 ?_
              refine rr_skip rfl rfl g8 ?_
              refine rr_pure (r_pick_t rfl rfl g8 rfl) rfl rfl rfl ?_
              refine rr_nil rfl ?_
              refine then_n ?_
              refine aw_cond rfl (fun _ => ?_) (fun b9 => by first | cases b9 | (rw [b9] at b9; cases b9) | simp_all)
              refine aw_seq ?_
              refine aw_region ?_
              refine rr_pure (rp rfl) rfl rfl rfl ?_
              refine rr_nil rfl ?_
              refine then_n ?_
              refine aw_ret ?_
              refine then_r ?_
              first | exact fin_r rfl rfl rfl rfl | (exfalso; omega) | (exfalso; simp_all; done)
            · have g8p := g8; try simp only [s_inj, decide_eq_true_eq, decide_eq_false_iff_not, Bool.not_eq_true', Bool.not_eq_false', bne_iff_ne, ne_eq, bne_eq_false_iff_eq, beq_iff_eq, beq_eq_false_iff_ne, Int.natCast_inj] at g8p
              refine rr_pure (rp rfl) rfl rfl g8 ?_
              refine rr_pure (rp rfl) rfl rfl g8 ?_
              refine rr_pure (r_bbin (.inr rfl) rfl rfl rfl rfl) rfl rfl g8 ?_
              refine rr_pure (r_pick_f rfl rfl g8 rfl) rfl rfl rfl ?_
              refine rr_nil rfl ?_
              refine then_n ?_
              refine aw_cond rfl (fun b10 => ?_) (fun b10 => ?_)
              · have b10p := b10; try simp only [s_inj, decide_eq_true_eq, decide_eq_false_iff_not, Bool.not_eq_true', Bool.not_eq_false', bne_iff_ne, ne_eq, bne_eq_false_iff_eq, beq_iff_eq, beq_eq_false_iff_ne, Int.natCast_inj] at b10p
                refine aw_seq ?_
                refine aw_region ?_
                refine rr_pure (rp rfl) rfl rfl rfl ?_
                refine rr_nil rfl ?_
                refine then_n ?_
                refine aw_ret ?_
                refine then_r ?_
                first | exact fin_r rfl rfl rfl rfl | (exfalso; omega) | (exfalso; simp_all; done)
              · have b10p := b10; try simp only [s_inj, decide_eq_true_eq, decide_eq_false_iff_not, Bool.not_eq_true', Bool.not_eq_false', bne_iff_ne, ne_eq, bne_eq_false_iff_eq, beq_iff_eq, beq_eq_false_iff_ne, Int.natCast_inj] at b10p
                refine aw_skip ?_
                refine then_n ?_
                refine aw_seq ?_
                refine aw_region ?_
                refine rr_pure (rp rfl) rfl rfl rfl ?_
                refine rr_nil rfl ?_
                refine then_n ?_
                refine aw_seq ?_
                refine aw_here [(0, sC v), (4, pL (H.length + 2)), (5, sB true), (6, sC (.sl (.l (H.length + 3)) 0 ws.length ws.length true)), (7, pL (H.length + 5)), (8, sB true), (10, sI 1)] [bW ws, bW ws, some ⟨(aC (.sl (.l (H.length + 1)) 0 ws.length ws.length false) e0 e0 0).cells, true, 0⟩, bW (mkW 1 ws.length), bW ws, some ⟨(aC (.sl (.l (H.length + 4)) 0 ws.length ws.length false) e0 e0 0).cells, true, 0⟩, bW ws] (by repeat (first | exact Sub.nil _ | refine Sub.cons rfl ?_)) rfl ?_
                refine aw_region ?_
                first
                  | refine rr_read (r_loadL rfl rfl rfl rfl rfl) rfl rfl rfl ?_
                  | refine rr_read (r_loadA rfl rfl rfl (Rd.at (by assumption) (by assumption)) rfl) rfl rfl rfl ?_
                refine rr_pure (rp rfl) rfl rfl rfl ?_
                refine rr_eff (r_callF rfl rfl rfl (c11 (j := 4) rfl rfl (by omega) (by omega))) rfl rfl rfl (by simp) ?_
                refine rr_pure (rp rfl) rfl rfl rfl ?_
                refine rr_nil rfl ?_
                refine then_n ?_
                refine aw_seq ?_
                refine aw_region ?_
                refine rr_pure (rp rfl) rfl rfl rfl ?_
                refine rr_nil rfl ?_
                refine then_n ?_
                refine aw_seq ?_
                refine aw_here [(0, sC v), (4, pL (H.length + 2)), (5, sB true), (6, sC (.sl (.l (H.length + 3)) 0 ws.length ws.length true)), (7, pL (H.length + 5)), (8, sB true), (10, sI (1 + 6 * (ws.length : Int))), (11, sI 1)] [bW ws, bW ws, some ⟨(aC (.sl (.l (H.length + 1)) 0 ws.length ws.length false) e0 e0 0).cells, true, 0⟩, bW (mkW 1 ws.length), bW (mkW 1 ws.length), some ⟨(aC (.sl (.l (H.length + 4)) 0 ws.length ws.length false) e0 e0 0).cells, true, 0⟩, bW ws] (by repeat (first | exact Sub.nil _ | refine Sub.cons rfl ?_)) rfl ?_
                refine aw_region ?_
                first
                  | refine rr_read (r_loadL rfl rfl rfl rfl rfl) rfl rfl rfl ?_
                  | refine rr_read (r_loadA rfl rfl rfl (Rd.at (by assumption) (by assumption)) rfl) rfl rfl rfl ?_
                refine rr_pure (rp rfl) rfl rfl rfl ?_
                refine rr_read (r_callF rfl rfl rfl (c12 _ (Rd.own (j := 4) lW rfl (mkW_length _ _).symm) (by omega) (by omega))) rfl rfl rfl  ?_
                refine rr_pure (rp rfl) rfl rfl rfl ?_
                refine rr_nil rfl ?_
                refine then_n ?_
                refine aw_seq ?_
                refine aw_seq ?_
                refine aw_region ?_
                refine rr_pure (rp rfl) rfl rfl rfl ?_
                refine rr_pure (rp rfl) rfl rfl rfl ?_
                refine rr_nil rfl ?_
                refine then_n ?_
                refine aw_cond rfl (fun b11 => ?_) (fun b11 => ?_)
                · have b11p := b11; try simp only [s_inj, decide_eq_true_eq, decide_eq_false_iff_not, Bool.not_eq_true', Bool.not_eq_false', bne_iff_ne, ne_eq, bne_eq_false_iff_eq, beq_iff_eq, beq_eq_false_iff_ne, Int.natCast_inj] at b11p
                  refine aw_seq ?_
                  refine aw_region ?_
                  refine rr_pure (rp rfl) rfl rfl rfl ?_
                  refine rr_nil rfl ?_
                  refine then_n ?_
                  refine aw_ret ?_
                  refine then_r ?_
                  first | exact fin_r rfl rfl rfl rfl | (exfalso; omega) | (exfalso; simp_all; done)
                · have b11p := b11; try simp only [s_inj, decide_eq_true_eq, decide_eq_false_iff_not, Bool.not_eq_true', Bool.not_eq_false', bne_iff_ne, ne_eq, bne_eq_false_iff_eq, beq_iff_eq, beq_eq_false_iff_ne, Int.natCast_inj] at b11p
                  refine aw_skip ?_
                  refine then_n ?_
                  refine aw_seq ?_
                  refine aw_seq ?_
                  refine aw_region ?_
                  refine rr_pure (rp rfl) rfl rfl rfl ?_
                  refine rr_pure (rp rfl) rfl rfl rfl ?_
                  refine rr_pure (rp rfl) rfl rfl rfl ?_
                  refine rr_nil rfl ?_
                  refine then_n ?_
                  refine aw_cond rfl (fun b12 => ?_) (fun b12 => ?_)
                  · have b12p := b12; try simp only [s_inj, decide_eq_true_eq, decide_eq_false_iff_not, Bool.not_eq_true', Bool.not_eq_false', bne_iff_ne, ne_eq, bne_eq_false_iff_eq, beq_iff_eq, beq_eq_false_iff_ne, Int.natCast_inj] at b12p
                    refine aw_seq ?_
                    refine aw_region ?_
                    refine rr_pure (rp rfl) rfl rfl rfl ?_
                    refine rr_nil rfl ?_
                    refine then_n ?_
                    refine aw_ret ?_
                    refine then_r ?_
                    first | exact fin_r rfl rfl rfl rfl | (exfalso; omega) | (exfalso; simp_all; done)
                  · have b12p := b12; try simp only [s_inj, decide_eq_true_eq, decide_eq_false_iff_not, Bool.not_eq_true', Bool.not_eq_false', bne_iff_ne, ne_eq, bne_eq_false_iff_eq, beq_iff_eq, beq_eq_false_iff_ne, Int.natCast_inj] at b12p
                    refine aw_skip ?_
                    refine then_n ?_
                    refine aw_seq ?_
                    refine aw_here [(0, sC v), (4, pL (H.length + 2)), (5, sB true), (6, sC (.sl (.l (H.length + 3)) 0 ws.length ws.length true)), (7, pL (H.length + 5)), (8, sB true), (10, sI (1 + 6 * (ws.length : Int)))] [bW ws, bW ws, some ⟨(aC (.sl (.l (H.length + 1)) 0 ws.length ws.length false) e0 e0 0).cells, true, 0⟩, bW (mkW 1 ws.length), bW (mkW 1 ws.length), some ⟨(aC (.sl (.l (H.length + 4)) 0 ws.length ws.length false) e0 e0 0).cells, true, 0⟩, bW ws] (by repeat (first | exact Sub.nil _ | refine Sub.cons rfl ?_)) rfl ?_
                    refine aw_region ?_
                    refine rr_pure (rp rfl) rfl rfl rfl ?_
                    refine rr_memL (r_callF rfl rfl rfl (c6 List.length_append hr.app (by omega))) rfl rfl rfl  ?_
                    refine rr_memL (r_callF rfl rfl rfl (c7s List.length_append (Rd.own (j := 7) lW rfl rfl) (by omega) hc)) rfl rfl rfl  ?_
                    refine rr_pure (rp rfl) rfl rfl rfl ?_
                    refine rr_pure (rp rfl) rfl rfl rfl ?_
                    refine rr_pure (rp rfl) rfl rfl rfl ?_
                    refine rr_memL (r_allocL rfl rfl) rfl rfl rfl ?_
                    refine rr_eff (r_storeL rfl rfl rfl rfl rfl rfl rfl (Nat.le_of_ble_eq_true rfl)) rfl rfl rfl (by simp) ?_
                    refine rr_pure (rp rfl) rfl rfl rfl ?_
                    refine rr_nil rfl ?_
                    refine then_n ?_
                    refine aw_seq ?_
                    refine aw_seq ?_
                    refine aw_here [(0, sC v), (4, pL (H.length + 2)), (5, sB true), (6, sC (.sl (.l (H.length + 3)) 0 ws.length ws.length true)), (7, pL (H.length + 5)), (8, sB true), (10, sI (1 + 6 * (ws.length : Int))), (12, pL (H.length + 9)), (13, sB true)] [bW ws, bW ws, some ⟨(aC (.sl (.l (H.length + 1)) 0 ws.length ws.length false) e0 e0 0).cells, true, 0⟩, bW (mkW 1 ws.length), bW (mkW 1 ws.length), some ⟨(aC (.sl (.l (H.length + 4)) 0 ws.length ws.length false) e0 e0 0).cells, true, 0⟩, bW ws, bW ws, bW ws, some ⟨(aC (.sl (.l (H.length + 8)) 0 ws.length ws.length false) e0 e0 0).cells, true, 0⟩] (by repeat (first | exact Sub.nil _ | refine Sub.cons rfl ?_)) rfl ?_
                    refine aw_region ?_
                    first
                      | refine rr_read (r_loadL rfl rfl rfl rfl rfl) rfl rfl rfl ?_
                      | refine rr_read (r_loadA rfl rfl rfl (Rd.at (by assumption) (by assumption)) rfl) rfl rfl rfl ?_
                    first
                      | refine rr_read (r_loadL rfl rfl rfl rfl rfl) rfl rfl rfl ?_
                      | refine rr_read (r_loadA rfl rfl rfl (Rd.at (by assumption) (by assumption)) rfl) rfl rfl rfl ?_
                    refine rr_read (r_callF rfl rfl rfl (c8 _ (Rd.own (j := 8) lW rfl rfl) (Rd.own (j := 1) lW rfl rfl) (by omega) (by omega))) rfl rfl rfl  ?_
                    refine rr_pure (rp rfl) rfl rfl rfl ?_
                    refine rr_pure (rp rfl) rfl rfl rfl ?_
                    refine rr_split rfl (fun g13 => ?_) (fun g13 => ?_)
                    · have g13p := g13; try simp only [s_inj, decide_eq_true_eq, decide_eq_false_iff_not, Bool.not_eq_true', Bool.not_eq_false', bne_iff_ne, ne_eq, bne_eq_false_iff_eq, beq_iff_eq, beq_eq_false_iff_ne, Int.natCast_inj] at g13p
                      refine rr_skip rfl rfl g13 ?_
                      refine rr_skip rfl rfl g13 ?_
                      refine rr_skip rfl rfl g13 ?_
                      refine rr_pure (r_pick_t rfl rfl g13 rfl) rfl rfl rfl ?_
                      refine rr_nil rfl ?_
                      refine then_n ?_
                      refine aw_cond rfl (fun _ => ?_) (fun b14 => by first | cases b14 | (rw [b14] at b14; cases b14) | simp_all)
                      refine aw_seq ?_
                      refine aw_region ?_
                      refine rr_pure (rp rfl) rfl rfl rfl ?_
                      refine rr_nil rfl ?_
                      refine then_n ?_
                      refine aw_ret ?_
                      refine then_r ?_
                      first | exact fin_r rfl rfl rfl rfl | (exfalso; omega) | (exfalso; simp_all; done)
                    · have g13p := g13; try simp only [s_inj, decide_eq_true_eq, decide_eq_false_iff_not, Bool.not_eq_true', Bool.not_eq_false', bne_iff_ne, ne_eq, bne_eq_false_iff_eq, beq_iff_eq, beq_eq_false_iff_ne, Int.natCast_inj] at g13p
                      refine rr_pure (rp rfl) rfl rfl g13 ?_
                      refine rr_pure (rp rfl) rfl rfl g13 ?_
                      refine rr_pure (r_bbin (.inr rfl) rfl rfl rfl rfl) rfl rfl g13 ?_
                      refine rr_pure (r_pick_f rfl rfl g13 rfl) rfl rfl rfl ?_
                      refine rr_nil rfl ?_
                      refine then_n ?_
                      refine aw_cond rfl (fun b15 => ?_) (fun b15 => ?_)
                      · have b15p := b15; try simp only [s_inj, decide_eq_true_eq, decide_eq_false_iff_not, Bool.not_eq_true', Bool.not_eq_false', bne_iff_ne, ne_eq, bne_eq_false_iff_eq, beq_iff_eq, beq_eq_false_iff_ne, Int.natCast_inj] at b15p
                        refine aw_seq ?_
                        refine aw_region ?_
                        refine rr_pure (rp rfl) rfl rfl rfl ?_
                        refine rr_nil rfl ?_
                        refine then_n ?_
                        refine aw_ret ?_
                        refine then_r ?_
                        first | exact fin_r rfl rfl rfl rfl | (exfalso; omega) | (exfalso; simp_all; done)
                      · have b15p := b15; try simp only [s_inj, decide_eq_true_eq, decide_eq_false_iff_not, Bool.not_eq_true', Bool.not_eq_false', bne_iff_ne, ne_eq, bne_eq_false_iff_eq, beq_iff_eq, beq_eq_false_iff_ne, Int.natCast_inj] at b15p
                        refine aw_skip ?_
                        refine then_n ?_
                        refine aw_seq ?_
                        refine aw_region ?_
                        refine rr_pure (rp rfl) rfl rfl rfl ?_
                        refine rr_nil rfl ?_
                        refine then_n ?_
                        refine aw_seq ?_
                        refine aw_here [(0, sC v), (4, pL (H.length + 2)), (5, sB true), (6, sC (.sl (.l (H.length + 3)) 0 ws.length ws.length true)), (7, pL (H.length + 5)), (8, sB true), (10, sI (1 + 6 * (ws.length : Int))), (11, sI 1)] [bW ws, bW ws, some ⟨(aC (.sl (.l (H.length + 1)) 0 ws.length ws.length false) e0 e0 0).cells, true, 0⟩, bW (mkW 1 ws.length), bW (mkW 1 ws.length), some ⟨(aC (.sl (.l (H.length + 4)) 0 ws.length ws.length false) e0 e0 0).cells, true, 0⟩, bW ws, bW ws, bW ws, some ⟨(aC (.sl (.l (H.length + 8)) 0 ws.length ws.length false) e0 e0 0).cells, true, 0⟩] (by repeat (first | exact Sub.nil _ | refine Sub.cons rfl ?_)) rfl ?_
                        refine aw_region ?_
                        first
                          | refine rr_read (r_loadL rfl rfl rfl rfl rfl) rfl rfl rfl ?_
                          | refine rr_read (r_loadA rfl rfl rfl (Rd.at (by assumption) (by assumption)) rfl) rfl rfl rfl ?_
                        refine rr_pure (rp rfl) rfl rfl rfl ?_
                        refine rr_read (r_callF rfl rfl rfl (c12 _ (Rd.own (j := 4) lW rfl (mkW_length _ _).symm) (by omega) (by omega))) rfl rfl rfl  ?_
                        refine rr_pure (rp rfl) rfl rfl rfl ?_
                        refine rr_nil rfl ?_
                        refine then_n ?_
                        refine aw_seq ?_
                        refine aw_seq ?_
                        refine aw_region ?_
                        refine rr_pure (rp rfl) rfl rfl rfl ?_
                        refine rr_pure (rp rfl) rfl rfl rfl ?_
                        refine rr_nil rfl ?_
                        refine then_n ?_
                        refine aw_cond rfl (fun b16 => ?_) (fun b16 => ?_)
                        · have b16p := b16; try simp only [s_inj, decide_eq_true_eq, decide_eq_false_iff_not, Bool.not_eq_true', Bool.not_eq_false', bne_iff_ne, ne_eq, bne_eq_false_iff_eq, beq_iff_eq, beq_eq_false_iff_ne, Int.natCast_inj] at b16p
                          refine aw_seq ?_
                          refine aw_region ?_
                          refine rr_pure (rp rfl) rfl rfl rfl ?_
                          refine rr_nil rfl ?_
                          refine then_n ?_
                          refine aw_ret ?_
                          refine then_r ?_
                          first | exact fin_r rfl rfl rfl rfl | (exfalso; omega) | (exfalso; simp_all; done)
                        · have b16p := b16; try simp only [s_inj, decide_eq_true_eq, decide_eq_false_iff_not, Bool.not_eq_true', Bool.not_eq_false', bne_iff_ne, ne_eq, bne_eq_false_iff_eq, beq_iff_eq, beq_eq_false_iff_ne, Int.natCast_inj] at b16p
                          refine aw_skip ?_
                          refine then_n ?_
                          refine aw_seq ?_
                          refine aw_seq ?_
                          refine aw_region ?_
                          refine rr_pure (rp rfl) rfl rfl rfl ?_
                          refine rr_pure (rp rfl) rfl rfl rfl ?_
                          refine rr_pure (rp rfl) rfl rfl rfl ?_
                          refine rr_nil rfl ?_
                          refine then_n ?_
                          refine aw_cond rfl (fun b17 => ?_) (fun b17 => ?_)
                          · have b17p := b17; try simp only [s_inj, decide_eq_true_eq, decide_eq_false_iff_not, Bool.not_eq_true', Bool.not_eq_false', bne_iff_ne, ne_eq, bne_eq_false_iff_eq, beq_iff_eq, beq_eq_false_iff_ne, Int.natCast_inj] at b17p
                            refine aw_seq ?_
                            refine aw_region ?_
                            refine rr_pure (rp rfl) rfl rfl rfl ?_
                            refine rr_nil rfl ?_
                            refine then_n ?_
                            refine aw_ret ?_
                            refine then_r ?_
                            first | exact fin_r rfl rfl rfl rfl | (exfalso; omega) | (exfalso; simp_all; done)
                          · have b17p := b17; try simp only [s_inj, decide_eq_true_eq, decide_eq_false_iff_not, Bool.not_eq_true', Bool.not_eq_false', bne_iff_ne, ne_eq, bne_eq_false_iff_eq, beq_iff_eq, beq_eq_false_iff_ne, Int.natCast_inj] at b17p
                            refine aw_skip ?_
                            refine then_n ?_
                            refine aw_seq ?_
                            refine aw_region ?_
                            refine rr_pure (rp rfl) rfl rfl rfl ?_
                            refine rr_nil rfl ?_
                            refine then_n ?_
                            refine aw_ret ?_
                            first | exact fin_r rfl rfl rfl rfl | (exfalso; omega) | (exfalso; simp_all; done)
theorem c3f (H : Heap) {v : AC} {ws : List Wn} (hr : Rd cx H 6 eW v ws) (hn : ws.length ≤ 2 ^ 44) (hc : okList ws = false) : ACalls cx 3 [.c v] H (Vb true) H := by
  refine acalls0 Try.func3 rfl rfl (fun S hS hw => ?_)
  refine aw_seq ?_
  refine aw_region ?_
  refine rr_pure (rp rfl) rfl rfl rfl ?_
  refine rr_nil rfl ?_
  refine then_n ?_
  refine aw_seq ?_
  refine aw_region ?_
  refine rr_pure (rp rfl) rfl rfl rfl ?_
  refine rr_nil rfl ?_
  refine then_n ?_
  refine aw_seq ?_
  refine aw_region ?_
  refine rr_pure (rp rfl) rfl rfl rfl ?_
  refine rr_pure (rp rfl) rfl rfl rfl ?_
  refine rr_read (r_callF rfl rfl rfl (c4 _ ⟨_, _, hr⟩ (by omega) (by omega))) rfl rfl rfl  ?_
  refine rr_pure (rp rfl) rfl rfl rfl ?_
  refine rr_nil rfl ?_
  refine then_n ?_
  refine aw_seq ?_
  refine aw_seq ?_
  refine aw_region ?_
  refine rr_pure (rp rfl) rfl rfl rfl ?_
  refine rr_pure (rp rfl) rfl rfl rfl ?_
  refine rr_nil rfl ?_
  refine then_n ?_
  refine aw_cond rfl (fun b1 => ?_) (fun b1 => ?_)
  · have b1p := b1; try simp only [s_inj, decide_eq_true_eq, decide_eq_false_iff_not, Bool.not_eq_true', Bool.not_eq_false', bne_iff_ne, ne_eq, bne_eq_false_iff_eq, beq_iff_eq, beq_eq_false_iff_ne, Int.natCast_inj] at b1p
    refine aw_seq ?_
    refine aw_region ?_
    refine rr_pure (rp rfl) rfl rfl rfl ?_
    refine rr_nil rfl ?_
    refine then_n ?_
    refine aw_ret ?_
    refine then_r ?_
    first | exact fin_r rfl rfl rfl rfl | (exfalso; omega) | (exfalso; simp_all; done)
  · have b1p := b1; try simp only [s_inj, decide_eq_true_eq, decide_eq_false_iff_not, Bool.not_eq_true', Bool.not_eq_false', bne_iff_ne, ne_eq, bne_eq_false_iff_eq, beq_iff_eq, beq_eq_false_iff_ne, Int.natCast_inj] at b1p
    have hz := sz_len (n := ws.length) (by omega)
    refine aw_skip ?_
    refine then_n ?_
    refine aw_seq ?_
    refine aw_region ?_
    refine rr_pure (rp rfl) rfl rfl rfl ?_
    refine rr_memL (r_callF rfl rfl rfl (c6 List.length_append hr.app (by omega))) rfl rfl rfl  ?_
    refine rr_read (r_callF rfl rfl rfl (c5f _ (Rd.own (j := 0) lW rfl rfl) (by omega) hc)) rfl rfl rfl  ?_
    refine rr_pure (rp rfl) rfl rfl rfl ?_
    refine rr_pure (rp rfl) rfl rfl rfl ?_
    refine rr_pure (rp rfl) rfl rfl rfl ?_
    refine rr_memL (r_allocL rfl rfl) rfl rfl rfl ?_
    refine rr_eff (r_storeL rfl rfl rfl rfl rfl rfl rfl (Nat.le_of_ble_eq_true rfl)) rfl rfl rfl (by simp) ?_
    refine rr_pure (rp rfl) rfl rfl rfl ?_
    refine rr_nil rfl ?_
    refine then_n ?_
    refine aw_seq ?_
    refine aw_region ?_
    refine rr_pure (rp rfl) rfl rfl rfl ?_
    refine rr_memL (r_callF rfl rfl rfl (c6 List.length_append hr.app (by omega))) rfl rfl rfl  ?_
    refine rr_pure (rp rfl) rfl rfl rfl ?_
    refine rr_nil rfl ?_
    refine then_n ?_
    refine aw_seq ?_
    refine aw_here [(0, sC v), (4, pL (H.length + 1)), (5, sB false), (6, sC (.sl (.l (H.length + 2)) 0 ws.length ws.length true))] [bW ws, some ⟨(aC .ns e0 e0 0).cells, true, 0⟩, bW ws] (by repeat (first | exact Sub.nil _ | refine Sub.cons rfl ?_)) rfl ?_
    refine aw_region ?_
    refine rr_pure (rp rfl) rfl rfl rfl ?_
    refine rr_read (r_callF rfl rfl rfl (c7f _ (Rd.own (j := 2) lW rfl rfl) (by omega) hc)) rfl rfl rfl  ?_
    refine rr_pure (rp rfl) rfl rfl rfl ?_
    refine rr_pure (rp rfl) rfl rfl rfl ?_
    refine rr_pure (rp rfl) rfl rfl rfl ?_
    refine rr_memL (r_allocL rfl rfl) rfl rfl rfl ?_
    refine rr_eff (r_storeL rfl rfl rfl rfl rfl rfl rfl (Nat.le_of_ble_eq_true rfl)) rfl rfl rfl (by simp) ?_
    refine rr_pure (rp rfl) rfl rfl rfl ?_
    refine rr_nil rfl ?_
    refine then_n ?_
    refine aw_seq ?_
    refine aw_seq ?_
    refine aw_here [(0, sC v), (4, pL (H.length + 1)), (5, sB false), (6, sC (.sl (.l (H.length + 2)) 0 ws.length ws.length true)), (7, pL (H.length + 3)), (8, sB false)] [bW ws, some ⟨(aC .ns e0 e0 0).cells, true, 0⟩, bW ws, some ⟨(aC .ns e0 e0 0).cells, true, 0⟩] (by repeat (first | exact Sub.nil _ | refine Sub.cons rfl ?_)) rfl ?_
    refine aw_region ?_
    first
      | refine rr_read (r_loadL rfl rfl rfl rfl rfl) rfl rfl rfl ?_
      | refine rr_read (r_loadA rfl rfl rfl (Rd.at (by assumption) (by assumption)) rfl) rfl rfl rfl ?_
    first
      | refine rr_read (r_loadL rfl rfl rfl rfl rfl) rfl rfl rfl ?_
      | refine rr_read (r_loadA rfl rfl rfl (Rd.at (by assumption) (by assumption)) rfl) rfl rfl rfl ?_
    refine rr_read (r_callF rfl rfl rfl (c8 _ (ws := []) (ws' := []) rfl rfl (by simp) (by simp))) rfl rfl rfl  ?_
    refine rr_pure (rp rfl) rfl rfl rfl ?_
    refine rr_pure (rp rfl) rfl rfl rfl ?_
    refine rr_split rfl (fun g2 => ?_) (fun g2 => ?_)
    · have g2p := g2; try simp only [s_inj, decide_eq_true_eq, decide_eq_false_iff_not, Bool.not_eq_true', Bool.not_eq_false', bne_iff_ne, ne_eq, bne_eq_false_iff_eq, beq_iff_eq, beq_eq_false_iff_ne, Int.natCast_inj] at g2p
      refine rr_skip rfl rfl g2 ?_
      refine rr_skip rfl rfl g2 ?_
      refine rr_skip rfl rfl g2 ?_
      refine rr_pure (r_pick_t rfl rfl g2 rfl) rfl rfl rfl ?_
      refine rr_nil rfl ?_
      refine then_n ?_
      refine aw_cond rfl (fun _ => ?_) (fun b3 => by first | cases b3 | (rw [b3] at b3; cases b3) | simp_all)
      refine aw_seq ?_
      refine aw_region ?_
      refine rr_pure (rp rfl) rfl rfl rfl ?_
      refine rr_nil rfl ?_
      refine then_n ?_
      refine aw_ret ?_
      refine then_r ?_
      first | exact fin_r rfl rfl rfl rfl | (exfalso; omega) | (exfalso; simp_all; done)
    · have g2p := g2; try simp only [s_inj, decide_eq_true_eq, decide_eq_false_iff_not, Bool.not_eq_true', Bool.not_eq_false', bne_iff_ne, ne_eq, bne_eq_false_iff_eq, beq_iff_eq, beq_eq_false_iff_ne, Int.natCast_inj] at g2p
      refine rr_pure (rp rfl) rfl rfl g2 ?_
      refine rr_pure (rp rfl) rfl rfl g2 ?_
      refine rr_pure (r_bbin (.inr rfl) rfl rfl rfl rfl) rfl rfl g2 ?_
      refine rr_pure (r_pick_f rfl rfl g2 rfl) rfl rfl rfl ?_
      refine rr_nil rfl ?_
      refine then_n ?_
      refine aw_cond rfl (fun b4 => ?_) (fun b4 => ?_)
      · have b4p := b4; try simp only [s_inj, decide_eq_true_eq, decide_eq_false_iff_not, Bool.not_eq_true', Bool.not_eq_false', bne_iff_ne, ne_eq, bne_eq_false_iff_eq, beq_iff_eq, beq_eq_false_iff_ne, Int.natCast_inj] at b4p
        refine aw_seq ?_
        refine aw_region ?_
        refine rr_pure (rp rfl) rfl rfl rfl ?_
        refine rr_nil rfl ?_
        refine then_n ?_
        refine aw_ret ?_
        refine then_r ?_
        first | exact fin_r rfl rfl rfl rfl | (exfalso; omega) | (exfalso; simp_all; done)
      · have b4p := b4; try simp only [s_inj, decide_eq_true_eq, decide_eq_false_iff_not, Bool.not_eq_true', Bool.not_eq_false', bne_iff_ne, ne_eq, bne_eq_false_iff_eq, beq_iff_eq, beq_eq_false_iff_ne, Int.natCast_inj] at b4p
        refine aw_skip ?_
        refine then_n ?_
        refine aw_seq ?_
        refine aw_seq ?_
        refine aw_here [(0, sC v), (4, pL (H.length + 1)), (5, sB false), (6, sC (.sl (.l (H.length + 2)) 0 ws.length ws.length true)), (7, pL (H.length + 3)), (8, sB false)] [bW ws, some ⟨(aC .ns e0 e0 0).cells, true, 0⟩, bW ws, some ⟨(aC .ns e0 e0 0).cells, true, 0⟩] (by repeat (first | exact Sub.nil _ | refine Sub.cons rfl ?_)) rfl ?_
        refine aw_region ?_
        refine rr_pure (rp rfl) rfl rfl rfl ?_
        refine rr_pure (rp rfl) rfl rfl rfl ?_
        refine rr_memL (r_callF rfl rfl rfl (c6 List.length_append hr.app (by omega))) rfl rfl rfl  ?_
        refine rr_read (r_callF rfl rfl rfl (c9 _ (Rd.own (j := 2) lW rfl rfl) (Rd.own (j := 4) lW rfl rfl) (by omega) (by omega))) rfl rfl rfl  ?_
        refine rr_pure (rp rfl) rfl rfl rfl ?_
        refine rr_nil rfl ?_
        refine then_n ?_
        refine aw_cond rfl (fun b5 => ?_) (fun b5 => ?_)
        · have b5p := b5; try simp only [s_inj, decide_eq_true_eq, decide_eq_false_iff_not, Bool.not_eq_true', Bool.not_eq_false', bne_iff_ne, ne_eq, bne_eq_false_iff_eq, beq_iff_eq, beq_eq_false_iff_ne, Int.natCast_inj] at b5p
          refine aw_seq ?_
          refine aw_region ?_
          refine rr_pure (rp rfl) rfl rfl rfl ?_
          refine rr_nil rfl ?_
          refine then_n ?_
          refine aw_ret ?_
          refine then_r ?_
          first | exact fin_r rfl rfl rfl rfl | (exfalso; omega) | (exfalso; simp_all; done)
        · have b5p := b5; try simp only [s_inj, decide_eq_true_eq, decide_eq_false_iff_not, Bool.not_eq_true', Bool.not_eq_false', bne_iff_ne, ne_eq, bne_eq_false_iff_eq, beq_iff_eq, beq_eq_false_iff_ne, Int.natCast_inj] at b5p
          refine aw_skip ?_
          refine then_n ?_
          refine aw_seq ?_
          refine aw_region ?_
          refine rr_pure (rp rfl) rfl rfl rfl ?_
          refine rr_nil rfl ?_
          refine then_n ?_
          refine aw_seq ?_
          refine aw_here [(0, sC v), (4, pL (H.length + 1)), (5, sB false), (6, sC (.sl (.l (H.length + 2)) 0 ws.length ws.length true)), (7, pL (H.length + 3)), (8, sB false), (9, sI 1)] [bW ws, some ⟨(aC .ns e0 e0 0).cells, true, 0⟩, bW ws, some ⟨(aC .ns e0 e0 0).cells, true, 0⟩, bW ws] (by repeat (first | exact Sub.nil _ | refine Sub.cons rfl ?_)) rfl ?_
          refine aw_region ?_
          refine rr_pure (rp rfl) rfl rfl rfl ?_
          refine rr_pure (rp rfl) rfl rfl rfl ?_
          refine rr_eff (r_callF rfl rfl rfl (c10 (j := 2) rfl rfl (by omega) (by omega))) rfl rfl rfl (by simp) ?_
          refine rr_pure (rp rfl) rfl rfl rfl ?_
          refine rr_nil rfl ?_
          refine then_n ?_
          refine aw_seq ?_
          refine aw_seq ?_
          refine aw_here [(0, sC v), (4, pL (H.length + 1)), (5, sB false), (6, sC (.sl (.l (H.length + 2)) 0 ws.length ws.length true)), (7, pL (H.length + 3)), (8, sB false), (9, sI (1 + 6 * (ws.length : Int)))] [bW ws, some ⟨(aC .ns e0 e0 0).cells, true, 0⟩, bW (mkW 1 ws.length), some ⟨(aC .ns e0 e0 0).cells, true, 0⟩, bW ws] (by repeat (first | exact Sub.nil _ | refine Sub.cons rfl ?_)) rfl ?_
          refine aw_region ?_
          refine rr_pure (rp rfl) rfl rfl rfl ?_
          refine rr_pure (rp rfl) rfl rfl rfl ?_
          refine rr_pure (rp rfl) rfl rfl rfl ?_
          refine rr_split rfl (fun g6 => ?_) (fun g6 => ?_)
          · have g6p := g6; try simp only [s_inj, decide_eq_true_eq, decide_eq_false_iff_not, Bool.not_eq_true', Bool.not_eq_false', bne_iff_ne, ne_eq, bne_eq_false_iff_eq, beq_iff_eq, beq_eq_false_iff_ne, Int.natCast_inj] at g6p
            refine rr_skip rfl rfl g6 ?_
            refine rr_skip rfl rfl g6 ?_
            refine rr_skip rfl rfl g6 ?_
            refine rr_skip rfl rfl g6 ?_
            refine rr_pure (r_pick_t rfl rfl g6 rfl) rfl rfl rfl ?_
            refine rr_pure (rp rfl) rfl rfl rfl ?_
            refine rr_skip rfl rfl rfl ?_
            refine rr_skip rfl rfl rfl ?_
            refine rr_skip rfl rfl rfl ?_
            refine rr_pure (r_pick_t rfl rfl rfl rfl) rfl rfl rfl ?_
            refine rr_nil rfl ?_
            refine then_n ?_
            refine aw_cond rfl (fun _ => ?_) (fun b7 => by first | cases b7 | (rw [b7] at b7; cases b7) | simp_all)
            refine aw_seq ?_
            refine aw_region ?_
            refine rr_pure (rp rfl) rfl rfl rfl ?_
            refine rr_nil rfl ?_
            refine then_n ?_
            refine aw_ret ?_
            refine then_r ?_
            first | exact fin_r rfl rfl rfl rfl | (exfalso; omega) | (exfalso; simp_all; done)
          · have g6p := g6; try simp only [s_inj, decide_eq_true_eq, decide_eq_false_iff_not, Bool.not_eq_true', Bool.not_eq_false', bne_iff_ne, ne_eq, bne_eq_false_iff_eq, beq_iff_eq, beq_eq_false_iff_ne, Int.natCast_inj] at g6p
            first
              | refine rr_read (r_loadL rfl rfl rfl rfl rfl) rfl rfl g6 ?_
              | refine rr_read (r_loadA rfl rfl rfl (Rd.at (by assumption) (by assumption)) rfl) rfl rfl g6 ?_
            first
              | refine rr_read (r_loadL rfl rfl rfl rfl rfl) rfl rfl g6 ?_
              | refine rr_read (r_loadA rfl rfl rfl (Rd.at (by assumption) (by assumption)) rfl) rfl rfl g6 ?_
            refine rr_read (r_callF rfl rfl rfl (c8 _ (ws := []) (ws' := []) rfl rfl (by simp) (by simp))) rfl rfl g6  ?_
            refine rr_pure (rp rfl) rfl rfl g6 ?_
            refine rr_pure (r_pick_f rfl rfl g6 rfl) rfl rfl rfl ?_
            refine rr_pure (rp rfl) rfl rfl rfl ?_
            refine rr_split rfl (fun g8 => ?_) (fun g8 => ?_)
            · have g8p := g8; try simp only [s_inj, decide_eq_true_eq, decide_eq_false_iff_not, Bool.not_eq_true', Bool.not_eq_false', bne_iff_ne, ne_eq, bne_eq_false_iff_eq, beq_iff_eq, beq_eq_false_iff_ne, Int.natCast_inj] at g8p
              refine rr_skip rfl rfl g8 ?_
              refine rr_skip rfl rfl g8 ?_
              refine rr_skip rfl rfl g8 ?_
              refine rr_pure (r_pick_t rfl rfl g8 rfl) rfl rfl rfl ?_
              refine rr_nil rfl ?_
              refine then_n ?_
              refine aw_cond rfl (fun _ => ?_) (fun b9 => by first | cases b9 | (rw [b9] at b9; cases b9) | simp_all)
              refine aw_seq ?_
              refine aw_region ?_
              refine rr_pure (rp rfl) rfl rfl rfl ?_
              refine rr_nil rfl ?_
              refine then_n ?_
              refine aw_ret ?_
              refine then_r ?_
              first | exact fin_r rfl rfl rfl rfl | (exfalso; omega) | (exfalso; simp_all; done)
            · have g8p := g8; try simp only [s_inj, decide_eq_true_eq, decide_eq_false_iff_not, Bool.not_eq_true', Bool.not_eq_false', bne_iff_ne, ne_eq, bne_eq_false_iff_eq, beq_iff_eq, beq_eq_false_iff_ne, Int.natCast_inj] at g8p
              refine rr_pure (rp rfl) rfl rfl g8 ?_
              refine rr_pure (rp rfl) rfl rfl g8 ?_
              refine rr_pure (r_bbin (.inr rfl) rfl rfl rfl rfl) rfl rfl g8 ?_
              refine rr_pure (r_pick_f rfl rfl g8 rfl) rfl rfl rfl ?_
              refine rr_nil rfl ?_
              refine then_n ?_
              refine aw_cond rfl (fun b10 => ?_) (fun b10 => ?_)
              · have b10p := b10; try simp only [s_inj, decide_eq_true_eq, decide_eq_false_iff_not, Bool.not_eq_true', Bool.not_eq_false', bne_iff_ne, ne_eq, bne_eq_false_iff_eq, beq_iff_eq, beq_eq_false_iff_ne, Int.natCast_inj] at b10p
                refine aw_seq ?_
                refine aw_region ?_
                refine rr_pure (rp rfl) rfl rfl rfl ?_
                refine rr_nil rfl ?_
                refine then_n ?_
                refine aw_ret ?_
                refine then_r ?_
                first | exact fin_r rfl rfl rfl rfl | (exfalso; omega) | (exfalso; simp_all; done)
              · have b10p := b10; try simp only [s_inj, decide_eq_true_eq, decide_eq_false_iff_not, Bool.not_eq_true', Bool.not_eq_false', bne_iff_ne, ne_eq, bne_eq_false_iff_eq, beq_iff_eq, beq_eq_false_iff_ne, Int.natCast_inj] at b10p
                refine aw_skip ?_
                refine then_n ?_
                refine aw_seq ?_
                refine aw_region ?_
                refine rr_pure (rp rfl) rfl rfl rfl ?_
                refine rr_nil rfl ?_
                refine then_n ?_
                refine aw_seq ?_
                refine aw_here [(0, sC v), (4, pL (H.length + 1)), (5, sB false), (6, sC (.sl (.l (H.length + 2)) 0 ws.length ws.length true)), (7, pL (H.length + 3)), (8, sB false), (10, sI 1)] [bW ws, some ⟨(aC .ns e0 e0 0).cells, true, 0⟩, bW (mkW 1 ws.length), some ⟨(aC .ns e0 e0 0).cells, true, 0⟩, bW ws] (by repeat (first | exact Sub.nil _ | refine Sub.cons rfl ?_)) rfl ?_
                refine aw_region ?_
                first
                  | refine rr_read (r_loadL rfl rfl rfl rfl rfl) rfl rfl rfl ?_
                  | refine rr_read (r_loadA rfl rfl rfl (Rd.at (by assumption) (by assumption)) rfl) rfl rfl rfl ?_
                refine rr_pure (rp rfl) rfl rfl rfl ?_
                refine rr_read (r_callF rfl rfl rfl (c11n _)) rfl rfl rfl  ?_
                refine rr_pure (rp rfl) rfl rfl rfl ?_
                refine rr_nil rfl ?_
                refine then_n ?_
                refine aw_seq ?_
                refine aw_region ?_
                refine rr_pure (rp rfl) rfl rfl rfl ?_
                refine rr_nil rfl ?_
                refine then_n ?_
                refine aw_seq ?_
                refine aw_here [(0, sC v), (4, pL (H.length + 1)), (5, sB false), (6, sC (.sl (.l (H.length + 2)) 0 ws.length ws.length true)), (7, pL (H.length + 3)), (8, sB false), (10, sI 1), (11, sI 1)] [bW ws, some ⟨(aC .ns e0 e0 0).cells, true, 0⟩, bW (mkW 1 ws.length), some ⟨(aC .ns e0 e0 0).cells, true, 0⟩, bW ws] (by repeat (first | exact Sub.nil _ | refine Sub.cons rfl ?_)) rfl ?_
                refine aw_region ?_
                first
                  | refine rr_read (r_loadL rfl rfl rfl rfl rfl) rfl rfl rfl ?_
                  | refine rr_read (r_loadA rfl rfl rfl (Rd.at (by assumption) (by assumption)) rfl) rfl rfl rfl ?_
                refine rr_pure (rp rfl) rfl rfl rfl ?_
                refine rr_read (r_callF rfl rfl rfl (c12 _ (n := 0) rfl (by omega) (by omega))) rfl rfl rfl  ?_
                refine rr_pure (rp rfl) rfl rfl rfl ?_
                refine rr_nil rfl ?_
                refine then_n ?_
                refine aw_seq ?_
                refine aw_seq ?_
                refine aw_region ?_
                refine rr_pure (rp rfl) rfl rfl rfl ?_
                refine rr_pure (rp rfl) rfl rfl rfl ?_
                refine rr_nil rfl ?_
                refine then_n ?_
                refine aw_cond rfl (fun b11 => ?_) (fun b11 => ?_)
                · have b11p := b11; try simp only [s_inj, decide_eq_true_eq, decide_eq_false_iff_not, Bool.not_eq_true', Bool.not_eq_false', bne_iff_ne, ne_eq, bne_eq_false_iff_eq, beq_iff_eq, beq_eq_false_iff_ne, Int.natCast_inj] at b11p
                  refine aw_seq ?_
                  refine aw_region ?_
                  refine rr_pure (rp rfl) rfl rfl rfl ?_
                  refine rr_nil rfl ?_
                  refine then_n ?_
                  refine aw_ret ?_
                  refine then_r ?_
                  first | exact fin_r rfl rfl rfl rfl | (exfalso; omega) | (exfalso; simp_all; done)
                · have b11p := b11; try simp only [s_inj, decide_eq_true_eq, decide_eq_false_iff_not, Bool.not_eq_true', Bool.not_eq_false', bne_iff_ne, ne_eq, bne_eq_false_iff_eq, beq_iff_eq, beq_eq_false_iff_ne, Int.natCast_inj] at b11p
                  refine aw_skip ?_
                  refine then_n ?_
                  refine aw_seq ?_
                  refine aw_seq ?_
                  refine aw_region ?_
                  refine rr_pure (rp rfl) rfl rfl rfl ?_
                  refine rr_pure (rp rfl) rfl rfl rfl ?_
                  refine rr_pure (rp rfl) rfl rfl rfl ?_
                  refine rr_nil rfl ?_
                  refine then_n ?_
                  refine aw_cond rfl (fun b12 => ?_) (fun b12 => ?_)
                  · have b12p := b12; try simp only [s_inj, decide_eq_true_eq, decide_eq_false_iff_not, Bool.not_eq_true', Bool.not_eq_false', bne_iff_ne, ne_eq, bne_eq_false_iff_eq, beq_iff_eq, beq_eq_false_iff_ne, Int.natCast_inj] at b12p
                    refine aw_seq ?_
                    refine aw_region ?_
                    refine rr_pure (rp rfl) rfl rfl rfl ?_
                    refine rr_nil rfl ?_
                    refine then_n ?_
                    refine aw_ret ?_
                    refine then_r ?_
                    first | exact fin_r rfl rfl rfl rfl | (exfalso; omega) | (exfalso; simp_all; done)
                  · have b12p := b12; try simp only [s_inj, decide_eq_true_eq, decide_eq_false_iff_not, Bool.not_eq_true', Bool.not_eq_false', bne_iff_ne, ne_eq, bne_eq_false_iff_eq, beq_iff_eq, beq_eq_false_iff_ne, Int.natCast_inj] at b12p
                    refine aw_skip ?_
                    refine then_n ?_
                    refine aw_seq ?_
                    refine aw_here [(0, sC v), (4, pL (H.length + 1)), (5, sB false), (6, sC (.sl (.l (H.length + 2)) 0 ws.length ws.length true)), (7, pL (H.length + 3)), (8, sB false), (10, sI 1)] [bW ws, some ⟨(aC .ns e0 e0 0).cells, true, 0⟩, bW (mkW 1 ws.length), some ⟨(aC .ns e0 e0 0).cells, true, 0⟩, bW ws] (by repeat (first | exact Sub.nil _ | refine Sub.cons rfl ?_)) rfl ?_
                    refine aw_region ?_
                    refine rr_pure (rp rfl) rfl rfl rfl ?_
                    refine rr_memL (r_callF rfl rfl rfl (c6 List.length_append hr.app (by omega))) rfl rfl rfl  ?_
                    refine rr_read (r_callF rfl rfl rfl (c7f _ (Rd.own (j := 5) lW rfl rfl) (by omega) hc)) rfl rfl rfl  ?_
                    refine rr_pure (rp rfl) rfl rfl rfl ?_
                    refine rr_pure (rp rfl) rfl rfl rfl ?_
                    refine rr_pure (rp rfl) rfl rfl rfl ?_
                    refine rr_memL (r_allocL rfl rfl) rfl rfl rfl ?_
                    refine rr_eff (r_storeL rfl rfl rfl rfl rfl rfl rfl (Nat.le_of_ble_eq_true rfl)) rfl rfl rfl (by simp) ?_
                    refine rr_pure (rp rfl) rfl rfl rfl ?_
                    refine rr_nil rfl ?_
                    refine then_n ?_
                    refine aw_seq ?_
                    refine aw_seq ?_
                    refine aw_here [(0, sC v), (4, pL (H.length + 1)), (5, sB false), (6, sC (.sl (.l (H.length + 2)) 0 ws.length ws.length true)), (7, pL (H.length + 3)), (8, sB false), (10, sI 1), (12, pL (H.length + 6)), (13, sB false)] [bW ws, some ⟨(aC .ns e0 e0 0).cells, true, 0⟩, bW (mkW 1 ws.length), some ⟨(aC .ns e0 e0 0).cells, true, 0⟩, bW ws, bW ws, some ⟨(aC .ns e0 e0 0).cells, true, 0⟩] (by repeat (first | exact Sub.nil _ | refine Sub.cons rfl ?_)) rfl ?_
                    refine aw_region ?_
                    first
                      | refine rr_read (r_loadL rfl rfl rfl rfl rfl) rfl rfl rfl ?_
                      | refine rr_read (r_loadA rfl rfl rfl (Rd.at (by assumption) (by assumption)) rfl) rfl rfl rfl ?_
                    first
                      | refine rr_read (r_loadL rfl rfl rfl rfl rfl) rfl rfl rfl ?_
                      | refine rr_read (r_loadA rfl rfl rfl (Rd.at (by assumption) (by assumption)) rfl) rfl rfl rfl ?_
                    refine rr_read (r_callF rfl rfl rfl (c8 _ (ws := []) (ws' := []) rfl rfl (by simp) (by simp))) rfl rfl rfl  ?_
                    refine rr_pure (rp rfl) rfl rfl rfl ?_
                    refine rr_pure (rp rfl) rfl rfl rfl ?_
                    refine rr_split rfl (fun g13 => ?_) (fun g13 => ?_)
                    · have g13p := g13; try simp only [s_inj, decide_eq_true_eq, decide_eq_false_iff_not, Bool.not_eq_true', Bool.not_eq_false', bne_iff_ne, ne_eq, bne_eq_false_iff_eq, beq_iff_eq, beq_eq_false_iff_ne, Int.natCast_inj] at g13p
                      refine rr_skip rfl rfl g13 ?_
                      refine rr_skip rfl rfl g13 ?_
                      refine rr_skip rfl rfl g13 ?_
                      refine rr_pure (r_pick_t rfl rfl g13 rfl) rfl rfl rfl ?_
                      refine rr_nil rfl ?_
                      refine then_n ?_
                      refine aw_cond rfl (fun _ => ?_) (fun b14 => by first | cases b14 | (rw [b14] at b14; cases b14) | simp_all)
                      refine aw_seq ?_
                      refine aw_region ?_
                      refine rr_pure (rp rfl) rfl rfl rfl ?_
                      refine rr_nil rfl ?_
                      refine then_n ?_
                      refine aw_ret ?_
                      refine then_r ?_
                      first | exact fin_r rfl rfl rfl rfl | (exfalso; omega) | (exfalso; simp_all; done)
                    · have g13p := g13; try simp only [s_inj, decide_eq_true_eq, decide_eq_false_iff_not, Bool.not_eq_true', Bool.not_eq_false', bne_iff_ne, ne_eq, bne_eq_false_iff_eq, beq_iff_eq, beq_eq_false_iff_ne, Int.natCast_inj] at g13p
                      refine rr_pure (rp rfl) rfl rfl g13 ?_
                      refine rr_pure (rp rfl) rfl rfl g13 ?_
                      refine rr_pure (r_bbin (.inr rfl) rfl rfl rfl rfl) rfl rfl g13 ?_
                      refine rr_pure (r_pick_f rfl rfl g13 rfl) rfl rfl rfl ?_
                      refine rr_nil rfl ?_
                      refine then_n ?_
                      refine aw_cond rfl (fun b15 => ?_) (fun b15 => ?_)
                      · have b15p := b15; try simp only [s_inj, decide_eq_true_eq, decide_eq_false_iff_not, Bool.not_eq_true', Bool.not_eq_false', bne_iff_ne, ne_eq, bne_eq_false_iff_eq, beq_iff_eq, beq_eq_false_iff_ne, Int.natCast_inj] at b15p
                        refine aw_seq ?_
                        refine aw_region ?_
                        refine rr_pure (rp rfl) rfl rfl rfl ?_
                        refine rr_nil rfl ?_
                        refine then_n ?_
                        refine aw_ret ?_
                        refine then_r ?_
                        first | exact fin_r rfl rfl rfl rfl | (exfalso; omega) | (exfalso; simp_all; done)
                      · have b15p := b15; try simp only [s_inj, decide_eq_true_eq, decide_eq_false_iff_not, Bool.not_eq_true', Bool.not_eq_false', bne_iff_ne, ne_eq, bne_eq_false_iff_eq, beq_iff_eq, beq_eq_false_iff_ne, Int.natCast_inj] at b15p
                        refine aw_skip ?_
                        refine then_n ?_
                        refine aw_seq ?_
                        refine aw_region ?_
                        refine rr_pure (rp rfl) rfl rfl rfl ?_
                        refine rr_nil rfl ?_
                        refine then_n ?_
                        refine aw_seq ?_
                        refine aw_here [(0, sC v), (4, pL (H.length + 1)), (5, sB false), (6, sC (.sl (.l (H.length + 2)) 0 ws.length ws.length true)), (7, pL (H.length + 3)), (8, sB false), (10, sI 1), (11, sI 1)] [bW ws, some ⟨(aC .ns e0 e0 0).cells, true, 0⟩, bW (mkW 1 ws.length), some ⟨(aC .ns e0 e0 0).cells, true, 0⟩, bW ws, bW ws, some ⟨(aC .ns e0 e0 0).cells, true, 0⟩] (by repeat (first | exact Sub.nil _ | refine Sub.cons rfl ?_)) rfl ?_
                        refine aw_region ?_
                        first
                          | refine rr_read (r_loadL rfl rfl rfl rfl rfl) rfl rfl rfl ?_
                          | refine rr_read (r_loadA rfl rfl rfl (Rd.at (by assumption) (by assumption)) rfl) rfl rfl rfl ?_
                        refine rr_pure (rp rfl) rfl rfl rfl ?_
                        refine rr_read (r_callF rfl rfl rfl (c12 _ (n := 0) rfl (by omega) (by omega))) rfl rfl rfl  ?_
                        refine rr_pure (rp rfl) rfl rfl rfl ?_
                        refine rr_nil rfl ?_
                        refine then_n ?_
                        refine aw_seq ?_
                        refine aw_seq ?_
                        refine aw_region ?_
                        refine rr_pure (rp rfl) rfl rfl rfl ?_
                        refine rr_pure (rp rfl) rfl rfl rfl ?_
                        refine rr_nil rfl ?_
                        refine then_n ?_
                        refine aw_cond rfl (fun b16 => ?_) (fun b16 => ?_)
                        · have b16p := b16; try simp only [s_inj, decide_eq_true_eq, decide_eq_false_iff_not, Bool.not_eq_true', Bool.not_eq_false', bne_iff_ne, ne_eq, bne_eq_false_iff_eq, beq_iff_eq, beq_eq_false_iff_ne, Int.natCast_inj] at b16p
                          refine aw_seq ?_
                          refine aw_region ?_
                          refine rr_pure (rp rfl) rfl rfl rfl ?_
                          refine rr_nil rfl ?_
                          refine then_n ?_
                          refine aw_ret ?_
                          refine then_r ?_
                          first | exact fin_r rfl rfl rfl rfl | (exfalso; omega) | (exfalso; simp_all; done)
                        · have b16p := b16; try simp only [s_inj, decide_eq_true_eq, decide_eq_false_iff_not, Bool.not_eq_true', Bool.not_eq_false', bne_iff_ne, ne_eq, bne_eq_false_iff_eq, beq_iff_eq, beq_eq_false_iff_ne, Int.natCast_inj] at b16p
                          refine aw_skip ?_
                          refine then_n ?_
                          refine aw_seq ?_
                          refine aw_seq ?_
                          refine aw_region ?_
                          refine rr_pure (rp rfl) rfl rfl rfl ?_
                          refine rr_pure (rp rfl) rfl rfl rfl ?_
                          refine rr_pure (rp rfl) rfl rfl rfl ?_
                          refine rr_nil rfl ?_
                          refine then_n ?_
                          refine aw_cond rfl (fun b17 => ?_) (fun b17 => ?_)
                          · have b17p := b17; try simp only [s_inj, decide_eq_true_eq, decide_eq_false_iff_not, Bool.not_eq_true', Bool.not_eq_false', bne_iff_ne, ne_eq, bne_eq_false_iff_eq, beq_iff_eq, beq_eq_false_iff_ne, Int.natCast_inj] at b17p
                            refine aw_seq ?_
                            refine aw_region ?_
                            refine rr_pure (rp rfl) rfl rfl rfl ?_
                            refine rr_nil rfl ?_
                            refine then_n ?_
                            refine aw_ret ?_
                            refine then_r ?_
                            first | exact fin_r rfl rfl rfl rfl | (exfalso; omega) | (exfalso; simp_all; done)
                          · have b17p := b17; try simp only [s_inj, decide_eq_true_eq, decide_eq_false_iff_not, Bool.not_eq_true', Bool.not_eq_false', bne_iff_ne, ne_eq, bne_eq_false_iff_eq, beq_iff_eq, beq_eq_false_iff_ne, Int.natCast_inj] at b17p
                            refine aw_skip ?_
                            refine then_n ?_
                            refine aw_seq ?_
                            refine aw_region ?_
                            refine rr_pure (rp rfl) rfl rfl rfl ?_
                            refine rr_nil rfl ?_
                            refine then_n ?_
                            refine aw_ret ?_
                            first | exact fin_r rfl rfl rfl rfl | (exfalso; omega) | (exfalso; simp_all; done)
theorem c3 (H : Heap) {v : AC} {ws : List Wn} (hr : Rd cx H 6 eW v ws) (hn : ws.length ≤ 2 ^ 44) : ACalls cx 3 [.c v] H (Vb true) H := by
  cases hc : okList ws with
  | true => exact c3s H hr hn hc
  | false => exact c3f H hr hn hc
end Go.Proofs.Ytneoihnljollaaa
