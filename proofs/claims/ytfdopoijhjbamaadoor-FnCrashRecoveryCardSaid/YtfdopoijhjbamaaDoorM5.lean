/- Splitting, checking and reading lines. -/
import Derived.Test.YtfdopoijhjbamaaDoorM4
namespace Go.Proofs.YtfdopoijhjbamaaDoor
open Go.Aw Go.RowKit
set_option maxRecDepth 100000
set_option maxHeartbeats 1000000
set_option linter.unusedSimpArgs false
set_option linter.unusedVariables false
noncomputable def verF (l : List UInt8) : Option (List UInt8) := if (cutF 35 l).2.2 && (appF (cutF 35 l).1 == some l) then some (cutF 35 l).1 else none
theorem verF_a {l : List UInt8} (h : (cutF 35 l).2.2 = false) : verF l = none := by unfold verF; rw [h]; rfl
theorem verF_b {l : List UInt8} (h : (appF (cutF 35 l).1).isSome = false) : verF l = none := by
  unfold verF; rw [Option.isSome_eq_false_iff, Option.isNone_iff_eq_none] at h; rw [h]; simp
theorem verF_c {l : List UInt8} (h : (appF (cutF 35 l).1).isSome = true) (hn : ¬ (appF (cutF 35 l).1).getD [] = l) : verF l = none := by
  unfold verF
  obtain ⟨x, hx⟩ := Option.isSome_iff_exists.1 h
  rw [hx] at hn ⊢
  rw [if_neg]
  simp only [Bool.and_eq_true, beq_iff_eq, Option.some.injEq, not_and]
  exact fun _ => hn
theorem verF_d {l : List UInt8} (h0 : (cutF 35 l).2.2 = true) (h : (appF (cutF 35 l).1).isSome = true) (hn : (appF (cutF 35 l).1).getD [] = l) : verF l = some (cutF 35 l).1 := by
  unfold verF
  obtain ⟨x, hx⟩ := Option.isSome_iff_exists.1 h
  rw [hx] at hn ⊢
  rw [if_pos]
  rw [h0]; simp only [Bool.true_and, beq_iff_eq, Option.some.injEq]; exact hn
theorem c39 {K : List (Nat × Go.Obj)} [hK : Nonempty (KOk K)] (H : Heap) {l : List UInt8} (hl : l.length ≤ 2 ^ 31) : ACalls (cx K) 39 [aS (bs l)] H (apR (verF l)) H := by
  have hc := cutF_len 35 l
  refine acalls0 Tryd.func39 rfl rfl (fun S hS hw => ?_)
  refine aw_seq ?_
  refine aw_region ?_
  refine rr_pure (rp rfl) rfl rfl rfl ?_
  refine rr_pure (rp rfl) rfl rfl rfl ?_
  refine rr_nil rfl ?_
  refine then_n ?_
  refine aw_seq ?_
  refine aw_region ?_
  refine rr_pure (rp rfl) rfl rfl rfl ?_
  refine rr_read (r_callF rfl rfl rfl (c38 _ (c := 35) (by omega))) rfl rfl rfl  ?_
  refine rr_pure (rp rfl) rfl rfl rfl ?_
  refine rr_pure (rp rfl) rfl rfl rfl ?_
  refine rr_pure (rp rfl) rfl rfl rfl ?_
  refine rr_pure (rp rfl) rfl rfl rfl ?_
  refine rr_pure (rp rfl) rfl rfl rfl ?_
  refine rr_pure (rp rfl) rfl rfl rfl ?_
  refine rr_pure (rp rfl) rfl rfl rfl ?_
  refine rr_nil rfl ?_
  refine then_n ?_
  refine aw_seq ?_
  refine aw_region ?_
  refine rr_pure (rp rfl) rfl rfl rfl ?_
  refine rr_read (r_callF rfl rfl rfl (c55 _ (by omega))) rfl rfl rfl  ?_
  refine rr_pure (rp rfl) rfl rfl rfl ?_
  refine rr_pure (rp rfl) rfl rfl rfl ?_
  refine rr_pure (rp rfl) rfl rfl rfl ?_
  refine rr_pure (rp rfl) rfl rfl rfl ?_
  refine rr_pure (rp rfl) rfl rfl rfl ?_
  refine rr_nil rfl ?_
  refine then_n ?_
  refine aw_seq ?_
  refine aw_seq ?_
  refine aw_region ?_
  refine rr_pure (rp rfl) rfl rfl rfl ?_
  refine rr_pure (rp rfl) rfl rfl rfl ?_
  refine rr_pure (rp rfl) rfl rfl rfl ?_
  refine rr_split rfl (fun g1 => ?_) (fun g1 => ?_)
  · have g1p := g1; try simp only [s_inj, bs_toList, nil_toList, bs_inj, u8_eq, UInt8.toNat_inj, decide_eq_true_eq, decide_eq_false_iff_not, Bool.not_eq_true', Bool.not_eq_false', bne_iff_ne, ne_eq, bne_eq_false_iff_eq, beq_iff_eq, beq_eq_false_iff_ne, Int.natCast_inj] at g1p
    refine rr_skip rfl rfl g1 ?_
    refine rr_skip rfl rfl g1 ?_
    refine rr_pure (r_pick_t rfl rfl g1 rfl) rfl rfl rfl ?_
    refine rr_pure (rp rfl) rfl rfl rfl ?_
    refine rr_skip rfl rfl rfl ?_
    refine rr_skip rfl rfl rfl ?_
    refine rr_skip rfl rfl rfl ?_
    refine rr_pure (r_pick_t rfl rfl rfl rfl) rfl rfl rfl ?_
    refine rr_nil rfl ?_
    refine then_n ?_
    refine aw_cond rfl (fun _ => ?_) (fun b2 => by first | cases b2 | (rw [b2] at b2; cases b2) | simp_all)
    refine aw_seq ?_
    refine aw_region ?_
    refine rr_pure (rp rfl) rfl rfl rfl ?_
    refine rr_pure (rp rfl) rfl rfl rfl ?_
    refine rr_nil rfl ?_
    refine then_n ?_
    refine aw_ret ?_
    refine then_r ?_
    exact fin_r (resA_tmp rfl (resA_tmp rfl resA_nil)) rfl (by rw [verF_a g1p]; rfl) rfl
  · have g1p := g1; try simp only [s_inj, bs_toList, nil_toList, bs_inj, u8_eq, UInt8.toNat_inj, decide_eq_true_eq, decide_eq_false_iff_not, Bool.not_eq_true', Bool.not_eq_false', bne_iff_ne, ne_eq, bne_eq_false_iff_eq, beq_iff_eq, beq_eq_false_iff_ne, Int.natCast_inj] at g1p
    refine rr_pure (rp rfl) rfl rfl g1 ?_
    refine rr_pure (rp rfl) rfl rfl g1 ?_
    refine rr_pure (r_pick_f rfl rfl g1 rfl) rfl rfl rfl ?_
    refine rr_pure (rp rfl) rfl rfl rfl ?_
    refine rr_split rfl (fun g3 => ?_) (fun g3 => ?_)
    · have g3p := g3; try simp only [s_inj, bs_toList, nil_toList, bs_inj, u8_eq, UInt8.toNat_inj, decide_eq_true_eq, decide_eq_false_iff_not, Bool.not_eq_true', Bool.not_eq_false', bne_iff_ne, ne_eq, bne_eq_false_iff_eq, beq_iff_eq, beq_eq_false_iff_ne, Int.natCast_inj] at g3p
      refine rr_skip rfl rfl g3 ?_
      refine rr_skip rfl rfl g3 ?_
      refine rr_skip rfl rfl g3 ?_
      refine rr_pure (r_pick_t rfl rfl g3 rfl) rfl rfl rfl ?_
      refine rr_nil rfl ?_
      refine then_n ?_
      refine aw_cond rfl (fun _ => ?_) (fun b4 => by first | cases b4 | (rw [b4] at b4; cases b4) | simp_all)
      refine aw_seq ?_
      refine aw_region ?_
      refine rr_pure (rp rfl) rfl rfl rfl ?_
      refine rr_pure (rp rfl) rfl rfl rfl ?_
      refine rr_nil rfl ?_
      refine then_n ?_
      refine aw_ret ?_
      refine then_r ?_
      exact fin_r (resA_tmp rfl (resA_tmp rfl resA_nil)) rfl (by rw [verF_b g3p]; rfl) rfl
    · have g3p := g3; try simp only [s_inj, bs_toList, nil_toList, bs_inj, u8_eq, UInt8.toNat_inj, decide_eq_true_eq, decide_eq_false_iff_not, Bool.not_eq_true', Bool.not_eq_false', bne_iff_ne, ne_eq, bne_eq_false_iff_eq, beq_iff_eq, beq_eq_false_iff_ne, Int.natCast_inj] at g3p
      refine rr_pure (rp rfl) rfl rfl g3 ?_
      refine rr_pure (rp rfl) rfl rfl g3 ?_
      refine rr_pure (rp rfl) rfl rfl g3 ?_
      refine rr_pure (r_pick_f rfl rfl g3 rfl) rfl rfl rfl ?_
      refine rr_nil rfl ?_
      refine then_n ?_
      refine aw_cond rfl (fun b5 => ?_) (fun b5 => ?_)
      · have b5p := b5; try simp only [s_inj, bs_toList, nil_toList, bs_inj, u8_eq, UInt8.toNat_inj, decide_eq_true_eq, decide_eq_false_iff_not, Bool.not_eq_true', Bool.not_eq_false', bne_iff_ne, ne_eq, bne_eq_false_iff_eq, beq_iff_eq, beq_eq_false_iff_ne, Int.natCast_inj] at b5p
        refine aw_seq ?_
        refine aw_region ?_
        refine rr_pure (rp rfl) rfl rfl rfl ?_
        refine rr_pure (rp rfl) rfl rfl rfl ?_
        refine rr_nil rfl ?_
        refine then_n ?_
        refine aw_ret ?_
        refine then_r ?_
        exact fin_r (resA_tmp rfl (resA_tmp rfl resA_nil)) rfl (by rw [verF_c g3p b5p]; rfl) rfl
      · have b5p := b5; try simp only [s_inj, bs_toList, nil_toList, bs_inj, u8_eq, UInt8.toNat_inj, decide_eq_true_eq, decide_eq_false_iff_not, Bool.not_eq_true', Bool.not_eq_false', bne_iff_ne, ne_eq, bne_eq_false_iff_eq, beq_iff_eq, beq_eq_false_iff_ne, Int.natCast_inj] at b5p
        refine aw_skip ?_
        refine then_n ?_
        refine aw_seq ?_
        refine aw_region ?_
        refine rr_pure (rp rfl) rfl rfl rfl ?_
        refine rr_pure (rp rfl) rfl rfl rfl ?_
        refine rr_pure (rp rfl) rfl rfl rfl ?_
        refine rr_nil rfl ?_
        refine then_n ?_
        refine aw_ret ?_
        exact fin_r (resA_tmp rfl (resA_tmp rfl resA_nil)) rfl (by rw [verF_d g1p g3p b5p]; rfl) rfl
def eT (x : List UInt8) : List AC := [.s (.string (bs x))]
theorem lT : ∀ x, (eT x).length = 1 := fun _ => rfl
theorem pT : ∀ x, ∀ c ∈ eT x, c.ids = [] := fun x c hc => by simp only [eT, List.mem_singleton] at hc; subst hc; rfl
abbrev bT (xs : List (List UInt8)) : Option Blk := some ⟨xs.flatMap eT, true, 1⟩
theorem cur_len (c : UInt8) : ∀ l : List UInt8, (doneF c l).2.length ≤ l.length := by
  intro l
  obtain ⟨n, hn⟩ : ∃ n, l.length = n := ⟨_, rfl⟩
  induction n generalizing l with
  | zero => have := List.length_eq_zero_iff.1 hn; subst this; simp [doneF]
  | succ n ih =>
    obtain ⟨l', b, rfl⟩ : ∃ l' b, l = l' ++ [b] := ⟨l.dropLast, l.getLast (by intro e; simp [e] at hn), (List.dropLast_concat_getLast _).symm⟩
    have := ih l' (by simpa using hn)
    rw [doneF_snoc]
    split
    · simp
    · simp; omega
/-- What runs is the end of what was read. -/
theorem cur_drop (c : UInt8) : ∀ l : List UInt8, (doneF c l).2 = l.drop (l.length - (doneF c l).2.length) := by
  intro l
  obtain ⟨n, hn⟩ : ∃ n, l.length = n := ⟨_, rfl⟩
  induction n generalizing l with
  | zero => have := List.length_eq_zero_iff.1 hn; subst this; simp [doneF]
  | succ n ih =>
    obtain ⟨l', b, rfl⟩ : ∃ l' b, l = l' ++ [b] := ⟨l.dropLast, l.getLast (by intro e; simp [e] at hn), (List.dropLast_concat_getLast _).symm⟩
    have h := ih l' (by simpa using hn)
    have hl := cur_len c l'
    rw [doneF_snoc]
    split
    · simp
    · simp only [List.length_append, List.length_singleton]
      rw [show l'.length + 1 - ((doneF c l').2.length + 1) = l'.length - (doneF c l').2.length by omega, List.drop_append_of_le_length (by omega), ← h]
theorem piece {c : UInt8} {l : List UInt8} {i : Nat} (hi : i ≤ l.length) : (l.take i).drop (i - (doneF c (l.take i)).2.length) = (doneF c (l.take i)).2 := by
  have := cur_drop c (l.take i)
  rw [List.length_take, Nat.min_eq_left hi] at this
  exact this.symm
theorem from_len {c : UInt8} {l : List UInt8} {i : Nat} (hi : i ≤ l.length) : (doneF c (l.take i)).2.length ≤ i := by
  have := cur_len c (l.take i); rw [List.length_take] at this; omega
theorem c42 {K : List (Nat × Go.Obj)} [hK : Nonempty (KOk K)] {H : Heap} {b : Nat} (hb : H.length = b) {l : List UInt8} {c : UInt8} (hl : l.length ≤ 2 ^ 40) : ACalls (cx K) 42 [aS (bs l), .c (.s (.int .u8 (c.toNat : Int)))] H (.v (.c (.sl (.l b) 0 (splitF c [] l).length (splitF c [] l).length false))) (H ++ [bT (splitF c [] l)]) := by
  subst hb
  rw [splitF_all]
  refine acallsN Tryd.func42 rfl rfl (fun S hS hw => ?_)
  refine aw_seq ?_
  refine aw_region ?_
  refine rr_pure (rp rfl) rfl rfl rfl ?_
  refine rr_nil rfl ?_
  refine then_n ?_
  refine aw_seq ?_
  refine aw_region ?_
  refine rr_memL (r_litE (α := (List UInt8)) (enc := eT) rfl rfl rfl rfl) rfl rfl rfl ?_
  refine rr_pure (rp rfl) rfl rfl rfl ?_
  refine rr_nil rfl ?_
  refine then_n ?_
  refine aw_seq ?_
  refine aw_region ?_
  refine rr_pure (rp rfl) rfl rfl rfl ?_
  refine rr_nil rfl ?_
  refine then_n ?_
  refine aw_seq ?_
  refine aw_seq ?_
  refine aw_region ?_
  refine rr_pure (rp rfl) rfl rfl rfl ?_
  refine rr_nil rfl ?_
  refine then_n ?_
  refine aw_block ?_
  refine aw_loop_mv (σ := Nat) (fun i => [(0, sS (bs l)), (1, some (.v (.c (.s (.int .u8 (c.toNat : Int)))))), (5, sC (svE (H.length + 0) (doneF c (l.take i)).1.length)), (6, sI ((i - (doneF c (l.take i)).2.length : Nat) : Int)), (7, sI i)]) (fun i => [bT (doneF c (l.take i)).1]) (fun i => i ≤ l.length) (fun i => l.length - i) (0) (by rw [hS]) hw (by simp) ⟨[0], mv_one rfl (flat_plain pT _), (by repeat (first | exact EMv.nil | refine EMv.cons (by first | rfl | (simp only [AT.ren, AV.ren, ren_svE]; rfl) | (simp only [AT.ren, AV.ren, ren_svG]; rfl) | (simp only [AT.ren, AV.ren, AC.ren, renB_add, renB_base]; rfl)) (by first | (simp [Lo, AT.ids, AV.ids, AC.ids, svE]; done) | exact lo_svG (by simp)) ?_))⟩ ?_
  intro i hi
  refine aw_seq ?_
  refine aw_seq ?_
  refine aw_region ?_
  refine rr_pure (rp rfl) rfl rfl rfl ?_
  refine rr_pure (rp rfl) rfl rfl rfl ?_
  refine rr_pure (r_lenB rfl rfl rfl) rfl rfl rfl ?_
  refine rr_pure (rp rfl) rfl rfl rfl ?_
  refine rr_nil rfl ?_
  refine then_n ?_
  refine aw_cond rfl (fun b1 => ?_) (fun b1 => ?_)
  · have b1p := b1; try simp only [s_inj, bs_toList, nil_toList, bs_inj, u8_eq, UInt8.toNat_inj, decide_eq_true_eq, decide_eq_false_iff_not, Bool.not_eq_true', Bool.not_eq_false', bne_iff_ne, ne_eq, bne_eq_false_iff_eq, beq_iff_eq, beq_eq_false_iff_ne, Int.natCast_inj] at b1p
    obtain ⟨x, hx⟩ := at_lt l (i := i) (by omega)
    have hf := from_len (c := c) (l := l) (i := i) (by omega)
    have hd := doneF_len c (l.take i)
    have ht : (l.take i).length = i := by rw [List.length_take]; omega
    refine aw_skip ?_
    refine then_n ?_
    refine aw_seq ?_
    refine aw_block ?_
    refine aw_seq ?_
    refine aw_region ?_
    refine rr_pure (rp rfl) rfl rfl rfl ?_
    refine rr_pure (rp rfl) rfl rfl rfl ?_
    refine rr_pure (r_indexB (u := 0) rfl rfl rfl rfl (by assumption) (by omega)) rfl rfl rfl ?_
    refine rr_pure (rp rfl) rfl rfl rfl ?_
    refine rr_pure (rp rfl) rfl rfl rfl ?_
    refine rr_nil rfl ?_
    refine then_n ?_
    refine aw_cond rfl (fun b2 => ?_) (fun b2 => ?_)
    · have b2p := b2; try simp only [s_inj, bs_toList, nil_toList, bs_inj, u8_eq, UInt8.toNat_inj, decide_eq_true_eq, decide_eq_false_iff_not, Bool.not_eq_true', Bool.not_eq_false', bne_iff_ne, ne_eq, bne_eq_false_iff_eq, beq_iff_eq, beq_eq_false_iff_ne, Int.natCast_inj] at b2p
      refine aw_seq ?_
      refine aw_region ?_
      refine rr_pure (rp rfl) rfl rfl rfl ?_
      refine rr_pure (rp rfl) rfl rfl rfl ?_
      refine rr_pure (rp rfl) rfl rfl rfl ?_
      refine rr_pure (rp rfl) rfl rfl rfl ?_
      refine rr_pure (r_subR (piece (c := c) (l := l) (i := i) (by omega)) rfl rfl rfl rfl rfl (by omega) (by omega)) rfl rfl rfl ?_
      refine rr_memL (r_litL rfl rfl rfl rfl rfl rfl rfl) rfl rfl rfl ?_
      refine rr_eff (r_appE (d := ⟨.str, 1, 16, [.s]⟩) (ys := (doneF c (l.take i)).1) (z := (doneF c (l.take i)).2) (j := 0) rfl rfl rfl rfl rfl rfl lT (Rd.own (j := 1) lT rfl rfl) (by dsimp only; omega) (by omega)) rfl rfl rfl (by simp) ?_
      refine rr_pure (rp rfl) rfl rfl rfl ?_
      refine rr_nil rfl ?_
      refine then_n ?_
      refine aw_region ?_
      refine rr_pure (rp rfl) rfl rfl rfl ?_
      refine rr_pure (r_addn rfl rfl rfl ⟨by omega, by omega⟩) rfl rfl rfl ?_
      refine rr_pure (rp rfl) rfl rfl rfl ?_
      refine rr_nil rfl ?_
      refine inb_n ?_
      refine then_n ?_
      refine aw_region ?_
      refine rr_pure (rp rfl) rfl rfl rfl ?_
      refine rr_pure (r_addn rfl rfl rfl ⟨by omega, by omega⟩) rfl rfl rfl ?_
      refine rr_pure (rp rfl) rfl rfl rfl ?_
      refine rr_nil rfl ?_
      refine then_n ?_
      have hs := doneF_snoc c (l.take i) x
      rw [← take_snoc hx, if_pos b2p] at hs
      exact ⟨i + 1, _, rfl, by omega, by omega, [2], by rw [hs]; exact mv_one rfl (flat_plain pT _), by rw [hs]; repeat (first | exact EMv.nil | refine EMv.cons (by first | rfl | (simp only [AT.ren, AV.ren, ren_svE]; rfl) | (simp only [AT.ren, AV.ren, ren_svG]; rfl) | (simp only [AT.ren, AV.ren, AC.ren, renB_add, renB_base]; rfl)) (by first | (simp [Lo, AT.ids, AV.ids, AC.ids, svE]; done) | exact lo_svG (by simp)) ?_)⟩
    · have b2p := b2; try simp only [s_inj, bs_toList, nil_toList, bs_inj, u8_eq, UInt8.toNat_inj, decide_eq_true_eq, decide_eq_false_iff_not, Bool.not_eq_true', Bool.not_eq_false', bne_iff_ne, ne_eq, bne_eq_false_iff_eq, beq_iff_eq, beq_eq_false_iff_ne, Int.natCast_inj] at b2p
      refine aw_skip ?_
      refine inb_n ?_
      refine then_n ?_
      refine aw_region ?_
      refine rr_pure (rp rfl) rfl rfl rfl ?_
      refine rr_pure (r_addn rfl rfl rfl ⟨by omega, by omega⟩) rfl rfl rfl ?_
      refine rr_pure (rp rfl) rfl rfl rfl ?_
      refine rr_nil rfl ?_
      refine then_n ?_
      have hs := doneF_snoc c (l.take i) x
      rw [← take_snoc hx, if_neg b2p] at hs
      have hz : i + 1 - ((doneF c (l.take i)).2 ++ [x]).length = i - (doneF c (l.take i)).2.length := by simp
      exact ⟨i + 1, _, rfl, by omega, by omega, [0], by rw [hs]; exact mv_one rfl (flat_plain pT _), by rw [hs]; simp only [hz]; repeat (first | exact EMv.nil | refine EMv.cons (by first | rfl | (simp only [AT.ren, AV.ren, ren_svE]; rfl) | (simp only [AT.ren, AV.ren, ren_svG]; rfl) | (simp only [AT.ren, AV.ren, AC.ren, renB_add, renB_base]; rfl)) (by first | (simp [Lo, AT.ids, AV.ids, AC.ids, svE]; done) | exact lo_svG (by simp)) ?_)⟩
  · have b1p := b1; try simp only [s_inj, bs_toList, nil_toList, bs_inj, u8_eq, UInt8.toNat_inj, decide_eq_true_eq, decide_eq_false_iff_not, Bool.not_eq_true', Bool.not_eq_false', bne_iff_ne, ne_eq, bne_eq_false_iff_eq, beq_iff_eq, beq_eq_false_iff_ne, Int.natCast_inj] at b1p
    obtain rfl : i = l.length := by omega
    rw [List.take_length]
    have hq := cur_len c l
    have hd := doneF_len c l
    refine aw_exit ?_
    refine then_x ?_
    refine then_x ?_
    refine inb_e ?_
    refine then_n ?_
    refine aw_seq ?_
    refine aw_region ?_
    refine rr_pure (rp rfl) rfl rfl rfl ?_
    refine rr_pure (rp rfl) rfl rfl rfl ?_
    refine rr_pure (rp rfl) rfl rfl rfl ?_
    refine rr_pure (r_subFromR (cur_drop c l).symm rfl rfl rfl rfl (by omega)) rfl rfl rfl ?_
    refine rr_memL (r_litL rfl rfl rfl rfl rfl rfl rfl) rfl rfl rfl ?_
    refine rr_eff (r_appE (d := ⟨.str, 1, 16, [.s]⟩) (ys := (doneF c l).1) (z := (doneF c l).2) (j := 0) rfl rfl rfl rfl rfl rfl lT (Rd.own (j := 1) lT rfl rfl) (by dsimp only; omega) (by omega)) rfl rfl rfl (by simp) ?_
    refine rr_pure (rp rfl) rfl rfl rfl ?_
    refine rr_nil rfl ?_
    refine then_n ?_
    refine aw_ret ?_
    exact fin_mv [2] (resA_tmp rfl resA_nil) (mv_one rfl (flat_plain pT _)) (by simp only [resT, AT.ren, AV.ren, AC.ren, renB_base]; rw [svE_pos (by simp)]; rfl) (by simp [Lo, AT.ids, AV.ids, AC.ids])
end Go.Proofs.YtfdopoijhjbamaaDoor
