/- Reading the log. -/
import Derived.Test.YtfdopoijhjbamaaDoorM7
namespace Go.Proofs.YtfdopoijhjbamaaDoor
open Go.Aw Go.RowKit
set_option maxRecDepth 100000
set_option maxHeartbeats 1000000
set_option linter.unusedSimpArgs false
set_option linter.unusedVariables false
theorem two_yes {c : UInt8} {l : List UInt8} (h : ¬ ((splitF c [] l).length : Int) < 2) : (cutF c l).2.2 = true := by
  have := splitF_two c l []
  rw [decide_eq_false (by omega)] at this
  simpa using this.symm
theorem two_no {c : UInt8} {l : List UInt8} (h : ((splitF c [] l).length : Int) < 2) : (cutF c l).2.2 = false := by
  have := splitF_two c l []
  rw [decide_eq_true (by omega)] at this
  simpa using this.symm
theorem c28 {K : List (Nat × Go.Obj)} [hK : Nonempty (KOk K)] {H : Heap} {b : Nat} (hb : H.length = b) {s : List UInt8} (hl : s.length ≤ 2 ^ 31) : ACalls (cx K) 28 [aS (bs s)] H (.tu [.c (svE b (logF s).1.length), aI ((logF s).2 : Nat)]) (H ++ [bR (logF s).1]) := by
  subst hb
  refine acallsN Tryd.func28 rfl rfl (fun S hS hw => ?_)
  refine aw_seq ?_
  refine aw_region ?_
  refine rr_pure (rp rfl) rfl rfl rfl ?_
  refine rr_pure (rp rfl) rfl rfl rfl ?_
  refine rr_nil rfl ?_
  refine then_n ?_
  refine aw_seq ?_
  refine aw_region ?_
  refine rr_memL (r_litE (α := Rc) (enc := eR) rfl rfl rfl rfl) rfl rfl rfl ?_
  refine rr_pure (rp rfl) rfl rfl rfl ?_
  refine rr_nil rfl ?_
  refine then_n ?_
  refine aw_seq ?_
  refine aw_region ?_
  refine rr_pure (rp rfl) rfl rfl rfl ?_
  refine rr_nil rfl ?_
  refine then_n ?_
  refine aw_seq ?_
  refine aw_block ?_
  refine aw_loop_mv (σ := List Rc × Nat) (fun p => [(0, sS (bs s)), (4, sC (svE (H.length + 0) p.1.length)), (5, sI (p.2 : Int))]) (fun p => [bR p.1]) (fun p => At s p.1 p.2) (fun p => 60 - p.1.length) (([], 0)) (by rw [hS]) hw (At.start s) ⟨[0], mv_one rfl (flat_plain pR _), (by repeat (first | exact EMv.nil | refine EMv.cons (by first | rfl | (simp only [AT.ren, AV.ren, ren_svE]; rfl) | (simp only [AT.ren, AV.ren, ren_svG]; rfl) | (simp only [AT.ren, AV.ren, AC.ren, renB_add, renB_base]; rfl)) (by first | (simp [Lo, AT.ids, AV.ids, AC.ids, svE]; done) | exact lo_svG (by simp)) ?_))⟩ ?_
  intro ⟨xs, a⟩ hi
  dsimp only at hi ⊢
  have hlen := hi.len
  obtain ⟨u, hu⟩ : ∃ u, s.drop a = u := ⟨_, rfl⟩
  obtain ⟨q, hq⟩ : ∃ q, (cutF 10 u).1 = q := ⟨_, rfl⟩
  have hul : u.length ≤ s.length := by rw [← hu, List.length_drop]; omega
  have hql : q.length ≤ u.length := by rw [← hq]; exact (cutF_len 10 u).1
  have hs0 : (splitF 10 [] u)[0]? = some q := by rw [← hq]; exact split_0 10 u
  have hpos := splitF_pos 10 u []
  refine aw_seq ?_
  refine aw_seq ?_
  refine aw_region ?_
  refine rr_pure (rp rfl) rfl rfl rfl ?_
  refine rr_pure (rp rfl) rfl rfl rfl ?_
  refine rr_pure (r_lenB rfl rfl rfl) rfl rfl rfl ?_
  refine rr_pure (rp rfl) rfl rfl rfl ?_
  refine rr_pure (rp rfl) rfl rfl rfl ?_
  refine rr_split rfl (fun g1 => ?_) (fun g1 => ?_)
  · have g1p := g1; try simp only [s_inj, bs_toList, nil_toList, bs_inj, u8_eq, UInt8.toNat_inj, decide_eq_true_eq, decide_eq_false_iff_not, Bool.not_eq_true', Bool.not_eq_false', bne_iff_ne, ne_eq, bne_eq_false_iff_eq, beq_iff_eq, beq_eq_false_iff_ne, Int.natCast_inj] at g1p
    refine rr_pure (rp rfl) rfl rfl g1 ?_
    first
      | refine rr_pure (rp rfl) rfl rfl g1 ?_
      | refine rr_pure (r_lenR rfl rfl rfl ⟨_, _, by assumption⟩) rfl rfl g1 ?_
    refine rr_pure (rp rfl) rfl rfl g1 ?_
    refine rr_pure (r_pick_t rfl rfl g1 rfl) rfl rfl rfl ?_
    refine rr_nil rfl ?_
    refine then_n ?_
    refine aw_cond rfl (fun b2 => ?_) (fun b2 => ?_)
    · have b2p := b2; try simp only [s_inj, bs_toList, nil_toList, bs_inj, u8_eq, UInt8.toNat_inj, decide_eq_true_eq, decide_eq_false_iff_not, Bool.not_eq_true', Bool.not_eq_false', bne_iff_ne, ne_eq, bne_eq_false_iff_eq, beq_iff_eq, beq_eq_false_iff_ne, Int.natCast_inj] at b2p
      refine aw_skip ?_
      refine then_n ?_
      refine aw_block ?_
      refine aw_seq ?_
      refine aw_region ?_
      refine rr_pure (rp rfl) rfl rfl rfl ?_
      refine rr_pure (rp rfl) rfl rfl rfl ?_
      refine rr_pure (r_subFromR hu rfl rfl rfl rfl (by omega)) rfl rfl rfl ?_
      refine rr_memL (r_callF rfl rfl rfl (c42 (c := 10) List.length_append (by omega))) rfl rfl rfl  ?_
      refine rr_pure (rp rfl) rfl rfl rfl ?_
      refine rr_nil rfl ?_
      refine then_n ?_
      refine aw_seq ?_
      refine aw_region ?_
      refine rr_pure (rp rfl) rfl rfl rfl ?_
      refine rr_pure (r_idx rfl rfl rfl rfl rfl (by omega) (by omega)) rfl rfl rfl ?_
      refine rr_read (r_load rfl rfl rfl (Rd.at (Rd.own (j := 1) (lo := 0) (ex := false) lT rfl rfl) (i := 0) hs0) rfl) rfl rfl rfl ?_
      refine rr_pure (rp rfl) rfl rfl rfl ?_
      first
        | refine rr_pure (rp rfl) rfl rfl rfl ?_
        | refine rr_pure (r_lenR rfl rfl rfl ⟨_, _, by assumption⟩) rfl rfl rfl ?_
      refine rr_read (r_callF rfl rfl rfl (c43 _ (by omega) (by omega) (by omega))) rfl rfl rfl  ?_
      refine rr_pure (rp rfl) rfl rfl rfl ?_
      refine rr_pure (rp rfl) rfl rfl rfl ?_
      refine rr_pure (rp rfl) rfl rfl rfl ?_
      refine rr_memL (r_allocL rfl rfl) rfl rfl rfl ?_
      refine rr_eff (r_storeL rfl rfl rfl rfl rfl rfl rfl (Nat.le_of_ble_eq_true rfl)) rfl rfl rfl (by simp) ?_
      refine rr_pure (rp rfl) rfl rfl rfl ?_
      refine rr_nil rfl ?_
      refine then_n ?_
      refine aw_seq ?_
      refine aw_seq ?_
      refine aw_region ?_
      refine rr_pure (rp rfl) rfl rfl rfl ?_
      first
        | refine rr_pure (rp rfl) rfl rfl rfl ?_
        | refine rr_pure (r_lenR rfl rfl rfl ⟨_, _, by assumption⟩) rfl rfl rfl ?_
      refine rr_pure (rp rfl) rfl rfl rfl ?_
      refine rr_pure (rp rfl) rfl rfl rfl ?_
      refine rr_split rfl (fun g3 => ?_) (fun g3 => ?_)
      · have g3p := g3; try simp only [s_inj, bs_toList, nil_toList, bs_inj, u8_eq, UInt8.toNat_inj, decide_eq_true_eq, decide_eq_false_iff_not, Bool.not_eq_true', Bool.not_eq_false', bne_iff_ne, ne_eq, bne_eq_false_iff_eq, beq_iff_eq, beq_eq_false_iff_ne, Int.natCast_inj] at g3p
        refine rr_skip rfl rfl g3 ?_
        refine rr_skip rfl rfl g3 ?_
        refine rr_pure (r_pick_t rfl rfl g3 rfl) rfl rfl rfl ?_
        refine rr_nil rfl ?_
        refine then_n ?_
        refine aw_cond rfl (fun _ => ?_) (fun b4 => by first | cases b4 | (rw [b4] at b4; cases b4) | simp_all)
        refine aw_exit ?_
        refine then_x ?_
        refine inb_x rfl ?_
        refine then_x ?_
        refine inb_e ?_
        refine then_n ?_
        refine aw_seq ?_
        refine aw_region ?_
        refine rr_pure (rp rfl) rfl rfl rfl ?_
        refine rr_pure (rp rfl) rfl rfl rfl ?_
        refine rr_pure (rp rfl) rfl rfl rfl ?_
        refine rr_pure (rp rfl) rfl rfl rfl ?_
        refine rr_nil rfl ?_
        refine then_n ?_
        refine aw_ret ?_
        rw [hi.nf (by rw [hu]; exact two_no g3p)]
        exact fin_mv [0] (resA_tmp rfl (resA_tmp rfl resA_nil)) (mv_one rfl (flat_plain pR _)) (by simp only [resT, AT.ren, AV.ren, List.map, svE, AC.ren, renB_base]; rfl) (by simp [Lo, AT.ids, AV.ids, AC.ids, svE])
      · have g3p := g3; try simp only [s_inj, bs_toList, nil_toList, bs_inj, u8_eq, UInt8.toNat_inj, decide_eq_true_eq, decide_eq_false_iff_not, Bool.not_eq_true', Bool.not_eq_false', bne_iff_ne, ne_eq, bne_eq_false_iff_eq, beq_iff_eq, beq_eq_false_iff_ne, Int.natCast_inj] at g3p
        refine rr_pure (rp rfl) rfl rfl g3 ?_
        refine rr_pure (rp rfl) rfl rfl g3 ?_
        refine rr_pure (r_pick_f rfl rfl g3 rfl) rfl rfl rfl ?_
        refine rr_nil rfl ?_
        refine then_n ?_
        refine aw_cond rfl (fun b5 => ?_) (fun b5 => ?_)
        · have b5p := b5; try simp only [s_inj, bs_toList, nil_toList, bs_inj, u8_eq, UInt8.toNat_inj, decide_eq_true_eq, decide_eq_false_iff_not, Bool.not_eq_true', Bool.not_eq_false', bne_iff_ne, ne_eq, bne_eq_false_iff_eq, beq_iff_eq, beq_eq_false_iff_ne, Int.natCast_inj] at b5p
          refine aw_exit ?_
          refine then_x ?_
          refine inb_x rfl ?_
          refine then_x ?_
          refine inb_e ?_
          refine then_n ?_
          refine aw_seq ?_
          refine aw_region ?_
          refine rr_pure (rp rfl) rfl rfl rfl ?_
          refine rr_pure (rp rfl) rfl rfl rfl ?_
          refine rr_pure (rp rfl) rfl rfl rfl ?_
          refine rr_pure (rp rfl) rfl rfl rfl ?_
          refine rr_nil rfl ?_
          refine then_n ?_
          refine aw_ret ?_
          rw [hi.bad (by rw [hu, hq]; exact readF_no (by omega) b5p)]
          exact fin_mv [0] (resA_tmp rfl (resA_tmp rfl resA_nil)) (mv_one rfl (flat_plain pR _)) (by simp only [resT, AT.ren, AV.ren, List.map, svE, AC.ren, renB_base]; rfl) (by simp [Lo, AT.ids, AV.ids, AC.ids, svE])
        · have b5p := b5; try simp only [s_inj, bs_toList, nil_toList, bs_inj, u8_eq, UInt8.toNat_inj, decide_eq_true_eq, decide_eq_false_iff_not, Bool.not_eq_true', Bool.not_eq_false', bne_iff_ne, ne_eq, bne_eq_false_iff_eq, beq_iff_eq, beq_eq_false_iff_ne, Int.natCast_inj] at b5p
          refine aw_skip ?_
          refine then_n ?_
          refine aw_seq ?_
          refine aw_region ?_
          refine rr_pure (rp rfl) rfl rfl rfl ?_
          first
            | refine rr_read (r_loadL rfl rfl rfl rfl rfl) rfl rfl rfl ?_
            | refine rr_read (r_loadA rfl rfl rfl (Rd.at (by assumption) (by assumption)) rfl) rfl rfl rfl ?_
          refine rr_memL (r_litL rfl rfl rfl rfl rfl rfl rfl) rfl rfl rfl ?_
          refine rr_eff (r_appE (d := ⟨.struct [(0, 1), (1, 1)], 2, 32, [.s, .s]⟩) (ys := xs) (z := (readF xs.length q).1) (j := 0) rfl rfl rfl rfl rfl rfl lR (Rd.own (j := 3) lR rfl rfl) (by dsimp only; omega) (by omega)) rfl rfl rfl (by simp) ?_
          refine rr_pure (rp rfl) rfl rfl rfl ?_
          refine rr_nil rfl ?_
          refine then_n ?_
          refine aw_region ?_
          refine rr_pure (rp rfl) rfl rfl rfl ?_
          refine rr_pure (rp rfl) rfl rfl rfl ?_
          refine rr_pure (r_idx rfl rfl rfl rfl rfl (by omega) (by omega)) rfl rfl rfl ?_
          refine rr_read (r_load rfl rfl rfl (Rd.at (Rd.own (j := 1) (lo := 0) (ex := false) lT rfl rfl) (i := 0) hs0) rfl) rfl rfl rfl ?_
          refine rr_pure (r_lenB rfl rfl rfl) rfl rfl rfl ?_
          refine rr_pure (r_addn rfl rfl rfl ⟨by omega, by omega⟩) rfl rfl rfl ?_
          refine rr_pure (r_addn rfl rfl rfl ⟨by omega, by omega⟩) rfl rfl rfl ?_
          refine rr_pure (rp rfl) rfl rfl rfl ?_
          refine rr_nil rfl ?_
          refine inb_n ?_
          refine then_n ?_
          have hn := hi.next (e := (readF xs.length q).1) (by omega) (by rw [hu]; exact two_yes g3p) (by rw [hu, hq]; exact readF_ok (by omega) b5p)
          rw [hu, hq] at hn
          exact ⟨(xs ++ [(readF xs.length q).1], a + q.length + 1), _, rfl, hn, by simp; omega, [4], mv_one rfl (flat_plain pR _), (by repeat (first | exact EMv.nil | refine EMv.cons (by first | rfl | (simp only [AT.ren, AV.ren, ren_svE]; rfl) | (simp only [AT.ren, AV.ren, ren_svG]; rfl) | (simp only [AT.ren, AV.ren, AC.ren, renB_add, renB_base]; rfl)) (by first | (simp [Lo, AT.ids, AV.ids, AC.ids, svE]; done) | exact lo_svG (by simp)) ?_))⟩
    · have b2p := b2; try simp only [s_inj, bs_toList, nil_toList, bs_inj, u8_eq, UInt8.toNat_inj, decide_eq_true_eq, decide_eq_false_iff_not, Bool.not_eq_true', Bool.not_eq_false', bne_iff_ne, ne_eq, bne_eq_false_iff_eq, beq_iff_eq, beq_eq_false_iff_ne, Int.natCast_inj] at b2p
      refine aw_exit ?_
      refine then_x ?_
      refine then_x ?_
      refine inb_e ?_
      refine then_n ?_
      refine aw_seq ?_
      refine aw_region ?_
      refine rr_pure (rp rfl) rfl rfl rfl ?_
      refine rr_pure (rp rfl) rfl rfl rfl ?_
      refine rr_pure (rp rfl) rfl rfl rfl ?_
      refine rr_pure (rp rfl) rfl rfl rfl ?_
      refine rr_nil rfl ?_
      refine then_n ?_
      refine aw_ret ?_
      rw [hi.full (by omega)]
      exact fin_mv [0] (resA_tmp rfl (resA_tmp rfl resA_nil)) (mv_one rfl (flat_plain pR _)) (by simp only [resT, AT.ren, AV.ren, List.map, svE, AC.ren, renB_base]; rfl) (by simp [Lo, AT.ids, AV.ids, AC.ids, svE])
  · have g1p := g1; try simp only [s_inj, bs_toList, nil_toList, bs_inj, u8_eq, UInt8.toNat_inj, decide_eq_true_eq, decide_eq_false_iff_not, Bool.not_eq_true', Bool.not_eq_false', bne_iff_ne, ne_eq, bne_eq_false_iff_eq, beq_iff_eq, beq_eq_false_iff_ne, Int.natCast_inj] at g1p
    refine rr_skip rfl rfl g1 ?_
    refine rr_skip rfl rfl g1 ?_
    refine rr_skip rfl rfl g1 ?_
    refine rr_pure (r_pick_f rfl rfl g1 rfl) rfl rfl rfl ?_
    refine rr_nil rfl ?_
    refine then_n ?_
    refine aw_cond rfl (fun b6 => by first | cases b6 | (rw [b6] at b6; cases b6) | simp_all) (fun _ => ?_)
    refine aw_exit ?_
    refine then_x ?_
    refine then_x ?_
    refine inb_e ?_
    refine then_n ?_
    refine aw_seq ?_
    refine aw_region ?_
    refine rr_pure (rp rfl) rfl rfl rfl ?_
    refine rr_pure (rp rfl) rfl rfl rfl ?_
    refine rr_pure (rp rfl) rfl rfl rfl ?_
    refine rr_pure (rp rfl) rfl rfl rfl ?_
    refine rr_nil rfl ?_
    refine then_n ?_
    refine aw_ret ?_
    rw [hi.fin (by omega)]
    exact fin_mv [0] (resA_tmp rfl (resA_tmp rfl resA_nil)) (mv_one rfl (flat_plain pR _)) (by simp only [resT, AT.ren, AV.ren, List.map, svE, AC.ren, renB_base]; rfl) (by simp [Lo, AT.ids, AV.ids, AC.ids, svE])
theorem ren_svG0 (n : Nat) (k : Nat) : (svG n k).ren n [0] = svG n k := ren_svG n [0] 0 k
theorem lo_tu1 {n : Nat} {v : AC} {x : Value} (h : Lo n v.ids) : Lo n (AT.tu [.c v, .c (.s x)]).ids := fun m hm => by
  simp only [AT.ids, List.flatMap_cons, List.flatMap_nil, AV.ids, AC.ids, List.append_nil] at hm
  exact h m hm
theorem mv_void {n i : Nat} {L : Heap} : Mv n [i] L [none] := ⟨rfl, by simp, fun j k' hj => by cases j with | zero => simp at hj | succ j => simp at hj, fun j k' hj => by cases j with | zero => simp at hj | succ j => simp at hj⟩
theorem ver_no {k : Int} {s : List UInt8} (h0 : 0 ≤ k) (h1 : k ≤ 999999) (h : (verF s).isSome = false) : accF k s = none := by
  cases ha : accF k s with
  | none => rfl
  | some e => rw [ver_yes h0 h1 ha] at h; cases h
theorem impl_no {k : Int} {s : List UInt8} {e : Rc} (h0 : 0 ≤ k) (h1 : k ≤ 999999) (h : (verF s).isSome = true) (he : (⟨(cutF 64 (cutF 32 ((verF s).getD [])).2.1).1, (cutF 64 (cutF 32 ((verF s).getD [])).2.1).2.1⟩ : Rc) = e) (hn : ¬ (okRc e = true ∧ lineF k e = s ++ [10])) : accF k s = none := by
  obtain ⟨t, ht⟩ := Option.isSome_iff_exists.1 h
  rw [ht] at he
  cases ha : accF k s with
  | none => rfl
  | some e' =>
    have := impl_yes h0 h1 ha ht
    rw [show (some t).getD [] = t from rfl] at he
    rw [he] at this
    subst this
    exact absurd ((accF_some h0).1 ha) hn
theorem ver_len (q : List UInt8) : ((verF q).getD []).length ≤ q.length := by
  unfold verF
  split
  · exact (cutF_len 35 q).1
  · simp
theorem c27 {K : List (Nat × Go.Obj)} [hK : Nonempty (KOk K)] {H : Heap} {b : Nat} (hb : H.length = b) {s : List UInt8} (hl : s.length ≤ 2 ^ 31) : ACalls (cx K) 27 [aS (bs s)] H (.tu [.c (svG b (logF s).1.length), aI ((logF s).2 : Nat)]) (H ++ [lpG (bR (logF s).1) (logF s).1.length]) := by
  subst hb
  refine acallsN Tryd.func27 rfl rfl (fun S hS hw => ?_)
  refine aw_seq ?_
  refine aw_region ?_
  refine rr_pure (rp rfl) rfl rfl rfl ?_
  refine rr_pure (rp rfl) rfl rfl rfl ?_
  refine rr_nil rfl ?_
  refine then_n ?_
  refine aw_seq ?_
  refine aw_region ?_
  refine rr_pure (rp rfl) rfl rfl rfl ?_
  refine rr_nil rfl ?_
  refine then_n ?_
  refine aw_seq ?_
  refine aw_region ?_
  refine rr_pure (rp rfl) rfl rfl rfl ?_
  refine rr_nil rfl ?_
  refine then_n ?_
  refine aw_seq ?_
  refine aw_block ?_
  refine aw_loop_mv (σ := List Rc × Nat) (fun p => [(0, sS (bs s)), (4, sC (svG (H.length + 0) p.1.length)), (5, sI (p.2 : Int))]) (fun p => [lpG (bR p.1) p.1.length]) (fun p => At s p.1 p.2) (fun p => 60 - p.1.length) (([], 0)) (by rw [hS]) hw (At.start s) ⟨[0], mv_void, (EMv.cons rfl (fun m hm => nomatch hm) (EMv.cons rfl (fun m hm => nomatch hm) (EMv.cons rfl (fun m hm => nomatch hm) .nil)))⟩ ?_
  intro ⟨xs, a⟩ hi
  dsimp only at hi ⊢
  have hlen := hi.len
  obtain ⟨u, hu⟩ : ∃ u, s.drop a = u := ⟨_, rfl⟩
  obtain ⟨q, u2, fd, hq⟩ : ∃ q u2 fd, cutF 10 u = (q, u2, fd) := ⟨_, _, _, rfl⟩
  obtain ⟨w, ok, hvw⟩ : ∃ w ok, ((verF q).getD [], (verF q).isSome) = (w, ok) := ⟨_, _, rfl⟩
  obtain ⟨t, r, f2, hr⟩ : ∃ t r f2, cutF 32 w = (t, r, f2) := ⟨_, _, _, rfl⟩
  obtain ⟨eq, ea, f3, he⟩ : ∃ eq ea f3, cutF 64 r = (eq, ea, f3) := ⟨_, _, _, rfl⟩
  have hul : u.length ≤ s.length := by rw [← hu, List.length_drop]; omega
  have hql : q.length ≤ u.length := by have := (cutF_len 10 u).1; rwa [hq] at this
  obtain ⟨hv1, hv2⟩ := Prod.mk.inj hvw
  have hwl : w.length ≤ q.length := by rw [← hv1]; exact ver_len q
  have hrl : r.length ≤ w.length := by have := (cutF_len 32 w).2; rwa [hr] at this
  have hel : eq.length ≤ r.length ∧ ea.length ≤ r.length := by have := cutF_len 64 r; rwa [he] at this
  have hC1 : ∀ H1, ACalls (cx K) 38 [aS (bs u), aS (bs [10])] H1 (.tu [aS (bs q), aS (bs u2), aB fd]) H1 := fun H1 => by have := c38 (K := K) H1 (l := u) (c := 10) (by omega); rwa [hq] at this
  have hC2 : ∀ H1, ACalls (cx K) 38 [aS (bs w), aS (bs [32])] H1 (.tu [aS (bs t), aS (bs r), aB f2]) H1 := fun H1 => by have := c38 (K := K) H1 (l := w) (c := 32) (by omega); rwa [hr] at this
  have hC3 : ∀ H1, ACalls (cx K) 38 [aS (bs r), aS (bs [64])] H1 (.tu [aS (bs eq), aS (bs ea), aB f3]) H1 := fun H1 => by have := c38 (K := K) H1 (l := r) (c := 64) (by omega); rwa [he] at this
  have hV : ∀ H1, ACalls (cx K) 39 [aS (bs q)] H1 (.tu [aS (bs w), aB ok]) H1 := fun H1 => by have := c39 (K := K) H1 (l := q) (by omega); rwa [apR, hv1, hv2] at this
  have hE : (⟨(cutF 64 (cutF 32 ((verF q).getD [])).2.1).1, (cutF 64 (cutF 32 ((verF q).getD [])).2.1).2.1⟩ : Rc) = ⟨eq, ea⟩ := by rw [hv1, hr]; dsimp only; rw [he]
  have hqe : (cutF 10 u).1 = q := by rw [hq]
  have hfe : (cutF 10 u).2.2 = fd := by rw [hq]
  refine aw_seq ?_
  refine aw_seq ?_
  refine aw_region ?_
  refine rr_pure (rp rfl) rfl rfl rfl ?_
  refine rr_pure (r_lenG rfl rfl rfl) rfl rfl rfl ?_
  refine rr_pure (rp rfl) rfl rfl rfl ?_
  refine rr_nil rfl ?_
  refine then_n ?_
  refine aw_cond rfl (fun b1 => ?_) (fun b1 => ?_)
  · have b1p := b1; try simp only [s_inj, bs_toList, nil_toList, bs_inj, u8_eq, UInt8.toNat_inj, decide_eq_true_eq, decide_eq_false_iff_not, Bool.not_eq_true', Bool.not_eq_false', bne_iff_ne, ne_eq, bne_eq_false_iff_eq, beq_iff_eq, beq_eq_false_iff_ne, Int.natCast_inj] at b1p
    refine aw_skip ?_
    refine then_n ?_
    refine aw_block ?_
    refine aw_seq ?_
    refine aw_region ?_
    refine rr_pure (rp rfl) rfl rfl rfl ?_
    refine rr_pure (rp rfl) rfl rfl rfl ?_
    refine rr_pure (r_subFromR hu rfl rfl rfl rfl (by omega)) rfl rfl rfl ?_
    refine rr_read (r_callF rfl rfl rfl (hC1 _)) rfl rfl rfl  ?_
    refine rr_pure (rp rfl) rfl rfl rfl ?_
    refine rr_pure (rp rfl) rfl rfl rfl ?_
    refine rr_pure (rp rfl) rfl rfl rfl ?_
    refine rr_pure (rp rfl) rfl rfl rfl ?_
    refine rr_pure (rp rfl) rfl rfl rfl ?_
    refine rr_pure (rp rfl) rfl rfl rfl ?_
    refine rr_pure (rp rfl) rfl rfl rfl ?_
    refine rr_nil rfl ?_
    refine then_n ?_
    refine aw_seq ?_
    refine aw_region ?_
    refine rr_pure (rp rfl) rfl rfl rfl ?_
    refine rr_read (r_callF rfl rfl rfl (hV _)) rfl rfl rfl  ?_
    refine rr_pure (rp rfl) rfl rfl rfl ?_
    refine rr_pure (rp rfl) rfl rfl rfl ?_
    refine rr_pure (rp rfl) rfl rfl rfl ?_
    refine rr_pure (rp rfl) rfl rfl rfl ?_
    refine rr_pure (rp rfl) rfl rfl rfl ?_
    refine rr_nil rfl ?_
    refine then_n ?_
    refine aw_seq ?_
    refine aw_seq ?_
    refine aw_region ?_
    refine rr_pure (rp rfl) rfl rfl rfl ?_
    refine rr_pure (rp rfl) rfl rfl rfl ?_
    refine rr_pure (rp rfl) rfl rfl rfl ?_
    refine rr_split rfl (fun g2 => ?_) (fun g2 => ?_)
    · have g2p := g2; try simp only [s_inj, bs_toList, nil_toList, bs_inj, u8_eq, UInt8.toNat_inj, decide_eq_true_eq, decide_eq_false_iff_not, Bool.not_eq_true', Bool.not_eq_false', bne_iff_ne, ne_eq, bne_eq_false_iff_eq, beq_iff_eq, beq_eq_false_iff_ne, Int.natCast_inj] at g2p
      refine rr_skip rfl rfl g2 ?_
      refine rr_skip rfl rfl g2 ?_
      refine rr_pure (r_pick_t rfl rfl g2 rfl) rfl rfl rfl ?_
      refine rr_nil rfl ?_
      refine then_n ?_
      refine aw_cond rfl (fun _ => ?_) (fun b3 => by first | cases b3 | (rw [b3] at b3; cases b3) | simp_all)
      refine aw_exit ?_
      refine then_x ?_
      refine inb_x rfl ?_
      refine then_x ?_
      refine inb_e ?_
      refine then_n ?_
      refine aw_seq ?_
      refine aw_region ?_
      refine rr_pure (rp rfl) rfl rfl rfl ?_
      refine rr_pure (rp rfl) rfl rfl rfl ?_
      refine rr_pure (rp rfl) rfl rfl rfl ?_
      refine rr_pure (rp rfl) rfl rfl rfl ?_
      refine rr_nil rfl ?_
      refine then_n ?_
      refine aw_ret ?_
      rw [hi.nf (by rw [hu, hfe]; exact g2p)]
      exact fin_mv [0] (resA_tmp rfl (resA_tmp rfl resA_nil)) (mv_G rfl (flat_plain pR _)) (by simp only [resT, AT.ren, AV.ren, List.map, ren_svG0]; rfl) (lo_tu1 (lo_svG (by simp)))
    · have g2p := g2; try simp only [s_inj, bs_toList, nil_toList, bs_inj, u8_eq, UInt8.toNat_inj, decide_eq_true_eq, decide_eq_false_iff_not, Bool.not_eq_true', Bool.not_eq_false', bne_iff_ne, ne_eq, bne_eq_false_iff_eq, beq_iff_eq, beq_eq_false_iff_ne, Int.natCast_inj] at g2p
      refine rr_pure (rp rfl) rfl rfl g2 ?_
      refine rr_pure (rp rfl) rfl rfl g2 ?_
      refine rr_pure (r_pick_f rfl rfl g2 rfl) rfl rfl rfl ?_
      refine rr_nil rfl ?_
      refine then_n ?_
      refine aw_cond rfl (fun b4 => ?_) (fun b4 => ?_)
      · have b4p := b4; try simp only [s_inj, bs_toList, nil_toList, bs_inj, u8_eq, UInt8.toNat_inj, decide_eq_true_eq, decide_eq_false_iff_not, Bool.not_eq_true', Bool.not_eq_false', bne_iff_ne, ne_eq, bne_eq_false_iff_eq, beq_iff_eq, beq_eq_false_iff_ne, Int.natCast_inj] at b4p
        refine aw_exit ?_
        refine then_x ?_
        refine inb_x rfl ?_
        refine then_x ?_
        refine inb_e ?_
        refine then_n ?_
        refine aw_seq ?_
        refine aw_region ?_
        refine rr_pure (rp rfl) rfl rfl rfl ?_
        refine rr_pure (rp rfl) rfl rfl rfl ?_
        refine rr_pure (rp rfl) rfl rfl rfl ?_
        refine rr_pure (rp rfl) rfl rfl rfl ?_
        refine rr_nil rfl ?_
        refine then_n ?_
        refine aw_ret ?_
        rw [hi.bad (by rw [hu, hqe]; exact ver_no (by omega) (by omega) (hv2.trans b4p))]
        exact fin_mv [0] (resA_tmp rfl (resA_tmp rfl resA_nil)) (mv_G rfl (flat_plain pR _)) (by simp only [resT, AT.ren, AV.ren, List.map, ren_svG0]; rfl) (lo_tu1 (lo_svG (by simp)))
      · have b4p := b4; try simp only [s_inj, bs_toList, nil_toList, bs_inj, u8_eq, UInt8.toNat_inj, decide_eq_true_eq, decide_eq_false_iff_not, Bool.not_eq_true', Bool.not_eq_false', bne_iff_ne, ne_eq, bne_eq_false_iff_eq, beq_iff_eq, beq_eq_false_iff_ne, Int.natCast_inj] at b4p
        refine aw_skip ?_
        refine then_n ?_
        refine aw_seq ?_
        refine aw_region ?_
        refine rr_pure (rp rfl) rfl rfl rfl ?_
        refine rr_read (r_callF rfl rfl rfl (hC2 _)) rfl rfl rfl  ?_
        refine rr_pure (rp rfl) rfl rfl rfl ?_
        refine rr_pure (rp rfl) rfl rfl rfl ?_
        refine rr_pure (rp rfl) rfl rfl rfl ?_
        refine rr_pure (rp rfl) rfl rfl rfl ?_
        refine rr_pure (rp rfl) rfl rfl rfl ?_
        refine rr_pure (rp rfl) rfl rfl rfl ?_
        refine rr_pure (rp rfl) rfl rfl rfl ?_
        refine rr_nil rfl ?_
        refine then_n ?_
        refine aw_seq ?_
        refine aw_region ?_
        refine rr_pure (rp rfl) rfl rfl rfl ?_
        refine rr_read (r_callF rfl rfl rfl (hC3 _)) rfl rfl rfl  ?_
        refine rr_pure (rp rfl) rfl rfl rfl ?_
        refine rr_pure (rp rfl) rfl rfl rfl ?_
        refine rr_pure (rp rfl) rfl rfl rfl ?_
        refine rr_pure (rp rfl) rfl rfl rfl ?_
        refine rr_pure (rp rfl) rfl rfl rfl ?_
        refine rr_pure (rp rfl) rfl rfl rfl ?_
        refine rr_pure (rp rfl) rfl rfl rfl ?_
        refine rr_nil rfl ?_
        refine then_n ?_
        refine aw_seq ?_
        refine aw_region ?_
        refine rr_pure (rp rfl) rfl rfl rfl ?_
        refine rr_pure (rp rfl) rfl rfl rfl ?_
        refine rr_pure (rp rfl) rfl rfl rfl ?_
        refine rr_memL (r_allocL rfl rfl) rfl rfl rfl ?_
        refine rr_eff (r_storeL rfl rfl rfl rfl rfl rfl rfl (Nat.le_of_ble_eq_true rfl)) rfl rfl rfl (by simp) ?_
        refine rr_nil rfl ?_
        refine then_n ?_
        refine aw_seq ?_
        refine aw_seq ?_
        refine aw_region ?_
        first
          | refine rr_read (r_loadL rfl rfl rfl rfl rfl) rfl rfl rfl ?_
          | refine rr_read (r_loadA rfl rfl rfl (Rd.at (by assumption) (by assumption)) rfl) rfl rfl rfl ?_
        refine rr_read (r_callF rfl rfl rfl (c40 _ (e := ⟨eq, ea⟩) (by dsimp only; omega) (by dsimp only; omega))) rfl rfl rfl  ?_
        refine rr_pure (rp rfl) rfl rfl rfl ?_
        refine rr_pure (rp rfl) rfl rfl rfl ?_
        refine rr_split rfl (fun g5 => ?_) (fun g5 => ?_)
        · have g5p := g5; try simp only [s_inj, bs_toList, nil_toList, bs_inj, u8_eq, UInt8.toNat_inj, decide_eq_true_eq, decide_eq_false_iff_not, Bool.not_eq_true', Bool.not_eq_false', bne_iff_ne, ne_eq, bne_eq_false_iff_eq, beq_iff_eq, beq_eq_false_iff_ne, Int.natCast_inj] at g5p
          refine rr_skip rfl rfl g5 ?_
          refine rr_skip rfl rfl g5 ?_
          refine rr_skip rfl rfl g5 ?_
          refine rr_skip rfl rfl g5 ?_
          refine rr_skip rfl rfl g5 ?_
          refine rr_skip rfl rfl g5 ?_
          refine rr_skip rfl rfl g5 ?_
          refine rr_pure (r_pick_t rfl rfl g5 rfl) rfl rfl rfl ?_
          refine rr_nil rfl ?_
          refine then_n ?_
          refine aw_cond rfl (fun _ => ?_) (fun b6 => by first | cases b6 | (rw [b6] at b6; cases b6) | simp_all)
          refine aw_exit ?_
          refine then_x ?_
          refine inb_x rfl ?_
          refine then_x ?_
          refine inb_e ?_
          refine then_n ?_
          refine aw_seq ?_
          refine aw_region ?_
          refine rr_pure (rp rfl) rfl rfl rfl ?_
          refine rr_pure (rp rfl) rfl rfl rfl ?_
          refine rr_pure (rp rfl) rfl rfl rfl ?_
          refine rr_pure (rp rfl) rfl rfl rfl ?_
          refine rr_nil rfl ?_
          refine then_n ?_
          refine aw_ret ?_
          rw [hi.bad (by rw [hu, hqe]; exact impl_no (by omega) (by omega) (hv2.trans b4p) hE (fun h => by rw [h.1] at g5p; cases g5p))]
          exact fin_mv [0] (resA_tmp rfl (resA_tmp rfl resA_nil)) (mv_G rfl (flat_plain pR _)) (by simp only [resT, AT.ren, AV.ren, List.map, ren_svG0]; rfl) (lo_tu1 (lo_svG (by simp)))
        · have g5p := g5; try simp only [s_inj, bs_toList, nil_toList, bs_inj, u8_eq, UInt8.toNat_inj, decide_eq_true_eq, decide_eq_false_iff_not, Bool.not_eq_true', Bool.not_eq_false', bne_iff_ne, ne_eq, bne_eq_false_iff_eq, beq_iff_eq, beq_eq_false_iff_ne, Int.natCast_inj] at g5p
          refine rr_pure (rp rfl) rfl rfl g5 ?_
          refine rr_pure (r_lenG rfl rfl rfl) rfl rfl g5 ?_
          first
            | refine rr_read (r_loadL rfl rfl rfl rfl rfl) rfl rfl g5 ?_
            | refine rr_read (r_loadA rfl rfl rfl (Rd.at (by assumption) (by assumption)) rfl) rfl rfl g5 ?_
          refine rr_read (r_callF rfl rfl rfl (c41 _ (k := xs.length) (e := ⟨eq, ea⟩) (by omega) (by omega) g5p)) rfl rfl g5  ?_
          refine rr_pure (rp rfl) rfl rfl g5 ?_
          refine rr_pure (r_catB (b := [10]) rfl rfl rfl (by simp only [List.length_cons, List.length_nil]; omega)) rfl rfl g5 ?_
          refine rr_pure (rp rfl) rfl rfl g5 ?_
          refine rr_pure (r_pick_f rfl rfl g5 rfl) rfl rfl rfl ?_
          refine rr_nil rfl ?_
          refine then_n ?_
          refine aw_cond rfl (fun b7 => ?_) (fun b7 => ?_)
          · have b7p := b7; try simp only [s_inj, bs_toList, nil_toList, bs_inj, u8_eq, UInt8.toNat_inj, decide_eq_true_eq, decide_eq_false_iff_not, Bool.not_eq_true', Bool.not_eq_false', bne_iff_ne, ne_eq, bne_eq_false_iff_eq, beq_iff_eq, beq_eq_false_iff_ne, Int.natCast_inj] at b7p
            refine aw_exit ?_
            refine then_x ?_
            refine inb_x rfl ?_
            refine then_x ?_
            refine inb_e ?_
            refine then_n ?_
            refine aw_seq ?_
            refine aw_region ?_
            refine rr_pure (rp rfl) rfl rfl rfl ?_
            refine rr_pure (rp rfl) rfl rfl rfl ?_
            refine rr_pure (rp rfl) rfl rfl rfl ?_
            refine rr_pure (rp rfl) rfl rfl rfl ?_
            refine rr_nil rfl ?_
            refine then_n ?_
            refine aw_ret ?_
            rw [hi.bad (by rw [hu, hqe]; exact impl_no (by omega) (by omega) (hv2.trans b4p) hE (fun h => b7p h.2))]
            exact fin_mv [0] (resA_tmp rfl (resA_tmp rfl resA_nil)) (mv_G rfl (flat_plain pR _)) (by simp only [resT, AT.ren, AV.ren, List.map, ren_svG0]; rfl) (lo_tu1 (lo_svG (by simp)))
          · have b7p := b7; try simp only [s_inj, bs_toList, nil_toList, bs_inj, u8_eq, UInt8.toNat_inj, decide_eq_true_eq, decide_eq_false_iff_not, Bool.not_eq_true', Bool.not_eq_false', bne_iff_ne, ne_eq, bne_eq_false_iff_eq, beq_iff_eq, beq_eq_false_iff_ne, Int.natCast_inj] at b7p
            refine aw_skip ?_
            refine then_n ?_
            refine aw_seq ?_
            refine aw_region ?_
            refine rr_pure (rp rfl) rfl rfl rfl ?_
            first
              | refine rr_read (r_loadL rfl rfl rfl rfl rfl) rfl rfl rfl ?_
              | refine rr_read (r_loadA rfl rfl rfl (Rd.at (by assumption) (by assumption)) rfl) rfl rfl rfl ?_
            refine rr_memL (r_litL rfl rfl rfl rfl rfl rfl rfl) rfl rfl rfl ?_
            refine rr_eff (r_appG (d := ⟨.struct [(0, 1), (1, 1)], 2, 32, [.s, .s]⟩) (ys := xs) (z := ⟨eq, ea⟩) (j := 0) rfl rfl rfl rfl rfl rfl lR (Rd.own (j := 2) lR rfl rfl) (by dsimp only; omega) (by omega)) rfl rfl rfl (by simp) ?_
            refine rr_pure (rp rfl) rfl rfl rfl ?_
            refine rr_nil rfl ?_
            refine then_n ?_
            refine aw_region ?_
            refine rr_pure (rp rfl) rfl rfl rfl ?_
            refine rr_pure (rp rfl) rfl rfl rfl ?_
            refine rr_pure (r_lenB rfl rfl rfl) rfl rfl rfl ?_
            refine rr_pure (r_addn rfl rfl rfl ⟨by omega, by omega⟩) rfl rfl rfl ?_
            refine rr_pure (r_addn rfl rfl rfl ⟨by omega, by omega⟩) rfl rfl rfl ?_
            refine rr_pure (rp rfl) rfl rfl rfl ?_
            refine rr_nil rfl ?_
            refine inb_n ?_
            refine then_n ?_
            have hn := hi.next (e := ⟨eq, ea⟩) (by omega) (by rw [hu, hfe]; exact g2p) (by rw [hu, hqe, accF_some (by omega)]; exact ⟨g5p, b7p⟩)
            rw [hu, hqe] at hn
            exact ⟨(xs ++ [⟨eq, ea⟩], a + q.length + 1), _, rfl, hn, by simp; omega, [3], mv_G rfl (flat_plain pR _), (by repeat (first | exact EMv.nil | refine EMv.cons (by first | rfl | (simp only [AT.ren, AV.ren, ren_svE]; rfl) | (simp only [AT.ren, AV.ren, ren_svG]; rfl) | (simp only [AT.ren, AV.ren, AC.ren, renB_add, renB_base]; rfl)) (by first | (simp [Lo, AT.ids, AV.ids, AC.ids, svE]; done) | exact lo_svG (by simp)) ?_))⟩
  · have b1p := b1; try simp only [s_inj, bs_toList, nil_toList, bs_inj, u8_eq, UInt8.toNat_inj, decide_eq_true_eq, decide_eq_false_iff_not, Bool.not_eq_true', Bool.not_eq_false', bne_iff_ne, ne_eq, bne_eq_false_iff_eq, beq_iff_eq, beq_eq_false_iff_ne, Int.natCast_inj] at b1p
    refine aw_exit ?_
    refine then_x ?_
    refine then_x ?_
    refine inb_e ?_
    refine then_n ?_
    refine aw_seq ?_
    refine aw_region ?_
    refine rr_pure (rp rfl) rfl rfl rfl ?_
    refine rr_pure (rp rfl) rfl rfl rfl ?_
    refine rr_pure (rp rfl) rfl rfl rfl ?_
    refine rr_pure (rp rfl) rfl rfl rfl ?_
    refine rr_nil rfl ?_
    refine then_n ?_
    refine aw_ret ?_
    rw [hi.full (by omega)]
    exact fin_mv [0] (resA_tmp rfl (resA_tmp rfl resA_nil)) (mv_G rfl (flat_plain pR _)) (by simp only [resT, AT.ren, AV.ren, List.map, ren_svG0]; rfl) (lo_tu1 (lo_svG (by simp)))
end Go.Proofs.YtfdopoijhjbamaaDoor
