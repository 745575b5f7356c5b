/- Consistent lists of warnings; marks; consoles. -/
import Derived.Test.YtfdopoijhjbamaaDoorMA
namespace Go.Proofs.YtfdopoijhjbamaaDoor
open Go.Aw Go.RowKit
set_option maxRecDepth 100000
set_option linter.unusedSimpArgs false
set_option linter.unusedVariables false
def w0 : Wn := ⟨0, 0, 0, 0, 0, 0⟩
def wP (ws : List Wn) (i : Nat) : Bool := okW (ws.getD i w0) && (decide (i = 0) || decide ((ws.getD (i - 1) w0).i < (ws.getD i w0).i))
def areW (ws : List Wn) : Bool := (List.range ws.length).all (wP ws) && decide (ws.length ≤ 12)
def freeW (ws : List Wn) (i : Nat) : Bool := !((ws.take i).any (meet (ws.getD i w0)))
def okList (ws : List Wn) : Bool := areW ws && (List.range ws.length).all (freeW ws)
theorem wP_at {ws : List Wn} {i : Nat} {x : Wn} (h : ws[i]? = some x) : wP ws i = (okW x && (decide (i = 0) || decide ((ws.getD (i - 1) w0).i < x.i))) := by rw [wP, getD_at h]
theorem freeW_at {ws : List Wn} {i : Nat} {x : Wn} (h : ws[i]? = some x) : freeW ws i = !((ws.take i).any (meet x)) := by rw [freeW, getD_at h]
theorem wP_t {ws : List Wn} {i : Nat} {x : Wn} (h : ws[i]? = some x) (h1 : okW x = true) (h2 : i = 0 ∨ (ws.getD (i - 1) w0).i < x.i) : wP ws i = true := by
  rw [wP_at h, h1]
  rcases h2 with h2 | h2
  · rw [decide_eq_true h2]; rfl
  · rw [decide_eq_true h2]; simp
theorem wP_f1 {ws : List Wn} {i : Nat} {x : Wn} (h : ws[i]? = some x) (h1 : okW x = false) : wP ws i = false := by rw [wP_at h, h1]; rfl
theorem wP_f2 {ws : List Wn} {i : Nat} {x : Wn} (h : ws[i]? = some x) (h0 : 0 < i) (h2 : x.i ≤ (ws.getD (i - 1) w0).i) : wP ws i = false := by
  rw [wP_at h, decide_eq_false (by omega : ¬ i = 0), decide_eq_false (by omega : ¬ (ws.getD (i - 1) w0).i < x.i)]; simp
theorem areW_f {ws : List Wn} {i : Nat} (h : i < ws.length) (hp : wP ws i = false) : areW ws = false := by rw [areW, range_not h hp]; rfl
theorem areW_t {ws : List Wn} (h : (List.range ws.length).all (wP ws) = true) : areW ws = decide (ws.length ≤ 12) := by rw [areW, h]; rfl
theorem okList_f {ws : List Wn} {i : Nat} {x : Wn} (hx : ws[i]? = some x) (hp : (ws.take i).any (meet x) = true) : okList ws = false := by
  rw [okList, range_not (List.getElem?_eq_some_iff.1 hx).1 (by rw [freeW_at hx, hp]; rfl)]; simp
theorem okList_a {ws : List Wn} (h : areW ws = false) : okList ws = false := by rw [okList, h]; rfl
theorem okList_t {ws : List Wn} (h : areW ws = true) (h2 : (List.range ws.length).all (freeW ws) = true) : okList ws = true := by rw [okList, h, h2]; rfl
theorem at_prev {α : Type} {xs : List α} {i : Nat} (z : α) (h0 : 0 < i) (h : i < xs.length) : xs[((i : Int) - 1).toNat]? = some (xs.getD (i - 1) z) := by
  rw [show ((i : Int) - 1).toNat = i - 1 by omega, List.getD_eq_getElem?_getD, List.getElem?_eq_getElem (by omega)]; rfl
theorem meet_comm (a b : Wn) : meet a b = meet b a := by
  rw [Bool.eq_iff_iff]
  simp only [meet, Bool.and_eq_true, decide_eq_true_eq]
  constructor <;> intro h <;> omega
abbrev xW (w : Wn) : Option Blk := some ⟨eW w, true, 0⟩
theorem c46 {K : List (Nat × Go.Obj)} [hK : Nonempty (KOk K)] (H : Heap) {v : AC} {ws : List Wn} (hr : Rd (cx K) H 6 eW v ws) (hn : ws.length ≤ 2 ^ 40) : ACalls (cx K) 46 [.c v] H (Vb (areW ws)) H := by
  refine acalls0 Tryd.func46 rfl rfl (fun S hS hw => ?_)
  refine aw_seq ?_
  refine aw_region ?_
  refine rr_pure (rp rfl) rfl rfl rfl ?_
  refine rr_nil rfl ?_
  refine then_n ?_
  refine aw_seq ?_
  refine aw_seq ?_
  refine aw_region ?_
  refine rr_pure (rp rfl) rfl rfl rfl ?_
  first
    | refine rr_pure (rp rfl) rfl rfl rfl ?_
    | refine rr_pure (r_lenR rfl rfl rfl ⟨_, _, hr⟩) rfl rfl rfl ?_
  refine rr_pure (rp rfl) rfl rfl rfl ?_
  refine rr_nil rfl ?_
  refine then_n ?_
  refine aw_block ?_
  refine aw_loop (σ := Nat) (fun i => [(0, sC v), (5, sC v), (6, sI ws.length), (7, sI i)]) (fun i => H ++ (ws.take i).map xW) (fun i => i ≤ ws.length ∧ (List.range i).all (wP ws) = true) (fun i => ws.length - i) (0) (by simp) (by repeat (first | exact Sub.nil _ | refine Sub.cons rfl ?_)) rfl ?_
  intro i hi
  refine aw_seq ?_
  refine aw_region ?_
  refine rr_pure (rp rfl) rfl rfl rfl ?_
  refine rr_nil rfl ?_
  refine then_n ?_
  refine aw_seq ?_
  refine aw_cond rfl (fun b1 => ?_) (fun b1 => ?_)
  · have b1p := b1; try simp only [s_inj, decide_eq_true_eq, decide_eq_false_iff_not, Bool.not_eq_true', Bool.not_eq_false', bne_iff_ne, ne_eq, bne_eq_false_iff_eq, beq_iff_eq, beq_eq_false_iff_ne, Int.natCast_inj] at b1p
    obtain ⟨x, hx⟩ := at_lt ws (i := i) (by omega)
    refine aw_skip ?_
    refine then_n ?_
    refine aw_seq ?_
    refine aw_block ?_
    refine aw_seq ?_
    refine aw_region ?_
    refine rr_pure (rp rfl) rfl rfl rfl ?_
    refine rr_pure (r_idxR rfl rfl rfl rfl rfl ⟨_, _, hr⟩ (by omega) (by omega)) rfl rfl rfl ?_
    first
      | refine rr_read (r_loadL rfl rfl rfl rfl rfl) rfl rfl rfl ?_
      | refine rr_read (r_loadA rfl rfl rfl (Rd.at hr (by assumption)) rfl) rfl rfl rfl ?_
    refine rr_memL (r_allocL rfl rfl) rfl rfl rfl ?_
    refine rr_pure (rp rfl) rfl rfl rfl ?_
    refine rr_eff (r_storeLast rfl rfl rfl rfl rfl rfl (Nat.le_of_ble_eq_true rfl)) rfl rfl rfl (by simp) ?_
    refine rr_nil rfl ?_
    refine then_n ?_
    refine aw_seq ?_
    refine aw_region_draw ?_
    refine rr_read (r_loadL rfl rfl rfl (ldL_last rfl) rfl) rfl rfl rfl ?_
    refine rr_read (r_callF rfl rfl rfl (c64 _)) rfl rfl rfl  ?_
    refine rr_pure (rp rfl) rfl rfl rfl ?_
    refine rr_pure (rp rfl) rfl rfl rfl ?_
    refine rr_split rfl (fun g2 => ?_) (fun g2 => ?_)
    · have g2p := g2; try simp only [s_inj, decide_eq_true_eq, decide_eq_false_iff_not, Bool.not_eq_true', Bool.not_eq_false', bne_iff_ne, ne_eq, bne_eq_false_iff_eq, beq_iff_eq, beq_eq_false_iff_ne, Int.natCast_inj] at g2p
      refine rr_skip rfl rfl g2 ?_
      refine rr_skip rfl rfl g2 ?_
      refine rr_skip rfl rfl g2 ?_
      refine rr_skip rfl rfl rfl ?_
      refine rr_skip rfl rfl rfl ?_
      refine rr_skip rfl rfl rfl ?_
      refine rr_skip rfl rfl rfl ?_
      refine rr_skip rfl rfl rfl ?_
      refine rr_skip rfl rfl rfl ?_
      refine rr_skip rfl rfl rfl ?_
      refine rr_skip rfl rfl rfl ?_
      refine rr_skip rfl rfl rfl ?_
      refine rr_skip rfl rfl g2 ?_
      refine rr_pure (r_pick_t rfl rfl g2 rfl) rfl rfl rfl ?_
      refine rr_nil (by kernel_rfl) ?_
      refine then_n ?_
      refine aw_cond rfl (fun _ => ?_) (fun b3 => by first | cases b3 | (rw [b3] at b3; cases b3) | simp_all)
      refine aw_seq ?_
      refine aw_region ?_
      refine rr_pure (rp rfl) rfl rfl rfl ?_
      refine rr_nil rfl ?_
      refine then_n ?_
      refine aw_ret ?_
      refine inb_r ?_
      refine then_r ?_
      refine then_r ?_
      refine inb_r ?_
      refine then_r ?_
      exact fin_b rfl (areW_f (by omega) (wP_f1 hx g2p)).symm
    · have g2p := g2; try simp only [s_inj, decide_eq_true_eq, decide_eq_false_iff_not, Bool.not_eq_true', Bool.not_eq_false', bne_iff_ne, ne_eq, bne_eq_false_iff_eq, beq_iff_eq, beq_eq_false_iff_ne, Int.natCast_inj] at g2p
      refine rr_pure (rp rfl) rfl rfl g2 ?_
      refine rr_pure (rp rfl) rfl rfl g2 ?_
      refine rr_pure (rp rfl) rfl rfl g2 ?_
      refine rr_split rfl (fun g4 => ?_) (fun g4 => ?_)
      · have g4p := g4; try simp only [s_inj, decide_eq_true_eq, decide_eq_false_iff_not, Bool.not_eq_true', Bool.not_eq_false', bne_iff_ne, ne_eq, bne_eq_false_iff_eq, beq_iff_eq, beq_eq_false_iff_ne, Int.natCast_inj] at g4p
        refine rr_pure (rp rfl) rfl rfl g4 ?_
        refine rr_pure (rp rfl) rfl rfl g4 ?_
        have hp := at_prev w0 (xs := ws) (i := i) (by omega) (by omega)
        refine rr_pure (r_subn rfl rfl rfl ⟨by omega, by omega⟩) rfl rfl g4 ?_
        refine rr_pure (r_idxR rfl rfl rfl rfl rfl ⟨_, _, hr⟩ (by omega) (by omega)) rfl rfl g4 ?_
        refine rr_pure (rp rfl) rfl rfl g4 ?_
        refine rr_read (r_loadA rfl rfl rfl (Rd.atf hr hp 0 1 (by decide)) rfl) rfl rfl g4 ?_
        refine rr_pure (rp rfl) rfl rfl g4 ?_
        refine rr_read (r_loadL rfl rfl rfl (ldL_last rfl) rfl) rfl rfl g4 ?_
        refine rr_pure (rp rfl) rfl rfl g4 ?_
        refine rr_pure (r_pick_t rfl rfl g4 rfl) rfl rfl g2 ?_
        refine rr_pure (r_pick_f rfl rfl g2 rfl) rfl rfl rfl ?_
        refine rr_nil (by kernel_rfl) ?_
        refine then_n ?_
        refine aw_cond rfl (fun b5 => ?_) (fun b5 => ?_)
        · have b5p := b5; try simp only [s_inj, decide_eq_true_eq, decide_eq_false_iff_not, Bool.not_eq_true', Bool.not_eq_false', bne_iff_ne, ne_eq, bne_eq_false_iff_eq, beq_iff_eq, beq_eq_false_iff_ne, Int.natCast_inj] at b5p
          refine aw_seq ?_
          refine aw_region ?_
          refine rr_pure (rp rfl) rfl rfl rfl ?_
          refine rr_nil rfl ?_
          refine then_n ?_
          refine aw_ret ?_
          refine inb_r ?_
          refine then_r ?_
          refine then_r ?_
          refine inb_r ?_
          refine then_r ?_
          exact fin_b rfl (areW_f (by omega) (wP_f2 hx (by omega) (by omega))).symm
        · have b5p := b5; try simp only [s_inj, decide_eq_true_eq, decide_eq_false_iff_not, Bool.not_eq_true', Bool.not_eq_false', bne_iff_ne, ne_eq, bne_eq_false_iff_eq, beq_iff_eq, beq_eq_false_iff_ne, Int.natCast_inj] at b5p
          refine aw_skip ?_
          refine inb_n ?_
          refine then_n ?_
          refine aw_region ?_
          refine rr_pure (r_addn rfl rfl rfl ⟨by omega, by omega⟩) rfl rfl rfl ?_
          refine rr_pure (rp rfl) rfl rfl rfl ?_
          refine rr_nil rfl ?_
          refine then_n ?_
          exact ⟨i + 1, ⟨by omega, range_step hi.2 (by first | exact wP_t hx g2p (.inl (by omega)) | exact wP_t hx g2p (.inr (by omega)))⟩, by omega, (by repeat (first | exact Sub.nil _ | refine Sub.cons rfl ?_)), (by rw [List.take_add_one, hx, List.map_append]; rfl)⟩
      · have g4p := g4; try simp only [s_inj, decide_eq_true_eq, decide_eq_false_iff_not, Bool.not_eq_true', Bool.not_eq_false', bne_iff_ne, ne_eq, bne_eq_false_iff_eq, beq_iff_eq, beq_eq_false_iff_ne, Int.natCast_inj] at g4p
        refine rr_skip rfl rfl g4 ?_
        refine rr_skip rfl rfl g4 ?_
        refine rr_skip rfl rfl g4 ?_
        refine rr_skip rfl rfl g4 ?_
        refine rr_skip rfl rfl g4 ?_
        refine rr_skip rfl rfl g4 ?_
        refine rr_skip rfl rfl g4 ?_
        refine rr_skip rfl rfl g4 ?_
        refine rr_skip rfl rfl g4 ?_
        refine rr_pure (r_pick_f rfl rfl g4 rfl) rfl rfl g2 ?_
        refine rr_pure (r_pick_f rfl rfl g2 rfl) rfl rfl rfl ?_
        refine rr_nil (by kernel_rfl) ?_
        refine then_n ?_
        refine aw_cond rfl (fun b6 => by first | cases b6 | (rw [b6] at b6; cases b6) | simp_all) (fun _ => ?_)
        refine aw_skip ?_
        refine inb_n ?_
        refine then_n ?_
        refine aw_region ?_
        refine rr_pure (r_addn rfl rfl rfl ⟨by omega, by omega⟩) rfl rfl rfl ?_
        refine rr_pure (rp rfl) rfl rfl rfl ?_
        refine rr_nil rfl ?_
        refine then_n ?_
        exact ⟨i + 1, ⟨by omega, range_step hi.2 (by first | exact wP_t hx g2p (.inl (by omega)) | exact wP_t hx g2p (.inr (by omega)))⟩, by omega, (by repeat (first | exact Sub.nil _ | refine Sub.cons rfl ?_)), (by rw [List.take_add_one, hx, List.map_append]; rfl)⟩
  · have b1p := b1; try simp only [s_inj, decide_eq_true_eq, decide_eq_false_iff_not, Bool.not_eq_true', Bool.not_eq_false', bne_iff_ne, ne_eq, bne_eq_false_iff_eq, beq_iff_eq, beq_eq_false_iff_ne, Int.natCast_inj] at b1p
    have hil : i = ws.length := by omega
    subst hil
    refine aw_exit ?_
    refine then_x ?_
    refine then_x ?_
    refine inb_e ?_
    refine then_n ?_
    refine aw_seq ?_
    refine aw_region ?_
    refine rr_pure (rp rfl) rfl rfl rfl ?_
    first
      | refine rr_pure (rp rfl) rfl rfl rfl ?_
      | refine rr_pure (r_lenR rfl rfl rfl ⟨_, _, hr⟩) rfl rfl rfl ?_
    refine rr_pure (rp rfl) rfl rfl rfl ?_
    refine rr_pure (rp rfl) rfl rfl rfl ?_
    refine rr_nil rfl ?_
    refine then_n ?_
    refine aw_ret ?_
    exact fin_b rfl (by rw [areW_t hi.2]; exact decide_eq_decide.2 (by omega))
theorem c32 {K : List (Nat × Go.Obj)} [hK : Nonempty (KOk K)] (H : Heap) {v : AC} {ws : List Wn} (hr : Rd (cx K) H 6 eW v ws) (hn : ws.length ≤ 2 ^ 40) : ACalls (cx K) 32 [.c v] H (Vb (okList ws)) H := by
  refine acalls0 Tryd.func32 rfl rfl (fun S hS hw => ?_)
  refine aw_seq ?_
  refine aw_region ?_
  refine rr_pure (rp rfl) rfl rfl rfl ?_
  refine rr_nil rfl ?_
  refine then_n ?_
  refine aw_seq ?_
  refine aw_seq ?_
  refine aw_region ?_
  refine rr_pure (rp rfl) rfl rfl rfl ?_
  refine rr_read (r_callF rfl rfl rfl (c46 _ hr.app hn)) rfl rfl rfl  ?_
  refine rr_pure (rp rfl) rfl rfl rfl ?_
  refine rr_nil rfl ?_
  refine then_n ?_
  refine aw_cond rfl (fun b1 => ?_) (fun b1 => ?_)
  · have b1p := b1; try simp only [s_inj, decide_eq_true_eq, decide_eq_false_iff_not, Bool.not_eq_true', Bool.not_eq_false', bne_iff_ne, ne_eq, bne_eq_false_iff_eq, beq_iff_eq, beq_eq_false_iff_ne, Int.natCast_inj] at b1p
    refine aw_seq ?_
    refine aw_region ?_
    refine rr_pure (rp rfl) rfl rfl rfl ?_
    refine rr_nil rfl ?_
    refine then_n ?_
    refine aw_ret ?_
    refine then_r ?_
    exact fin_b rfl (okList_a b1p).symm
  · have b1p := b1; try simp only [s_inj, decide_eq_true_eq, decide_eq_false_iff_not, Bool.not_eq_true', Bool.not_eq_false', bne_iff_ne, ne_eq, bne_eq_false_iff_eq, beq_iff_eq, beq_eq_false_iff_ne, Int.natCast_inj] at b1p
    refine aw_skip ?_
    refine then_n ?_
    refine aw_seq ?_
    refine aw_seq ?_
    refine aw_region ?_
    refine rr_pure (rp rfl) rfl rfl rfl ?_
    first
      | refine rr_pure (rp rfl) rfl rfl rfl ?_
      | refine rr_pure (r_lenR rfl rfl rfl ⟨_, _, hr⟩) rfl rfl rfl ?_
    refine rr_pure (rp rfl) rfl rfl rfl ?_
    refine rr_nil rfl ?_
    refine then_n ?_
    refine aw_block ?_
    refine aw_loop (σ := Nat) (fun i => [(0, sC v), (8, sC v), (9, sI ws.length), (10, sI i)]) (fun i => H ++ (ws.take i).map xW) (fun i => i ≤ ws.length ∧ (List.range i).all (freeW ws) = true) (fun i => ws.length - i) (0) (by simp) (by repeat (first | exact Sub.nil _ | refine Sub.cons rfl ?_)) rfl ?_
    intro i hi
    refine aw_seq ?_
    refine aw_region ?_
    refine rr_pure (rp rfl) rfl rfl rfl ?_
    refine rr_nil rfl ?_
    refine then_n ?_
    refine aw_seq ?_
    refine aw_cond rfl (fun b2 => ?_) (fun b2 => ?_)
    · have b2p := b2; try simp only [s_inj, decide_eq_true_eq, decide_eq_false_iff_not, Bool.not_eq_true', Bool.not_eq_false', bne_iff_ne, ne_eq, bne_eq_false_iff_eq, beq_iff_eq, beq_eq_false_iff_ne, Int.natCast_inj] at b2p
      obtain ⟨x, hx⟩ := at_lt ws (i := i) (by omega)
      refine aw_skip ?_
      refine then_n ?_
      refine aw_seq ?_
      refine aw_block ?_
      refine aw_seq ?_
      refine aw_region ?_
      refine rr_pure (rp rfl) rfl rfl rfl ?_
      refine rr_pure (r_idxR rfl rfl rfl rfl rfl ⟨_, _, hr⟩ (by omega) (by omega)) rfl rfl rfl ?_
      first
        | refine rr_read (r_loadL rfl rfl rfl rfl rfl) rfl rfl rfl ?_
        | refine rr_read (r_loadA rfl rfl rfl (Rd.at hr (by assumption)) rfl) rfl rfl rfl ?_
      refine rr_memL (r_allocL rfl rfl) rfl rfl rfl ?_
      refine rr_pure (rp rfl) rfl rfl rfl ?_
      refine rr_eff (r_storeLast rfl rfl rfl rfl rfl rfl (Nat.le_of_ble_eq_true rfl)) rfl rfl rfl (by simp) ?_
      refine rr_nil rfl ?_
      refine then_n ?_
      refine aw_seq ?_
      refine aw_region ?_
      refine rr_pure (rp rfl) rfl rfl rfl ?_
      refine rr_pure (rp rfl) rfl rfl rfl ?_
      refine rr_pure (r_cutTo rfl rfl rfl rfl rfl ⟨_, _, hr⟩ (by omega)) rfl rfl rfl ?_
      refine rr_pure (r_func (ps := [(.l (H.length + ((ws.take i).map xW).length), 0)]) rfl rfl) rfl rfl rfl ?_
      refine rr_read (r_callF rfl rfl rfl (c47 _ (p := meet x) rfl (fun o => c48 (ld_app (ld_own (ldL_last rfl)))) (hr.upto (by omega)).app (by simp; omega))) rfl rfl rfl  ?_
      refine rr_nil rfl ?_
      refine then_n ?_
      refine aw_cond rfl (fun b3 => ?_) (fun b3 => ?_)
      · have b3p := b3; try simp only [s_inj, decide_eq_true_eq, decide_eq_false_iff_not, Bool.not_eq_true', Bool.not_eq_false', bne_iff_ne, ne_eq, bne_eq_false_iff_eq, beq_iff_eq, beq_eq_false_iff_ne, Int.natCast_inj] at b3p
        refine aw_seq ?_
        refine aw_region ?_
        refine rr_pure (rp rfl) rfl rfl rfl ?_
        refine rr_nil rfl ?_
        refine then_n ?_
        refine aw_ret ?_
        refine inb_r ?_
        refine then_r ?_
        refine then_r ?_
        refine inb_r ?_
        refine then_r ?_
        exact fin_b rfl (okList_f hx b3p).symm
      · have b3p := b3; try simp only [s_inj, decide_eq_true_eq, decide_eq_false_iff_not, Bool.not_eq_true', Bool.not_eq_false', bne_iff_ne, ne_eq, bne_eq_false_iff_eq, beq_iff_eq, beq_eq_false_iff_ne, Int.natCast_inj] at b3p
        refine aw_skip ?_
        refine inb_n ?_
        refine then_n ?_
        refine aw_region ?_
        refine rr_pure (r_addn rfl rfl rfl ⟨by omega, by omega⟩) rfl rfl rfl ?_
        refine rr_pure (rp rfl) rfl rfl rfl ?_
        refine rr_nil rfl ?_
        refine then_n ?_
        exact ⟨i + 1, ⟨by omega, range_step hi.2 (by rw [freeW_at hx, b3p]; rfl)⟩, by omega, (by repeat (first | exact Sub.nil _ | refine Sub.cons rfl ?_)), (by rw [List.take_add_one, hx, List.map_append]; rfl)⟩
    · have b2p := b2; try simp only [s_inj, decide_eq_true_eq, decide_eq_false_iff_not, Bool.not_eq_true', Bool.not_eq_false', bne_iff_ne, ne_eq, bne_eq_false_iff_eq, beq_iff_eq, beq_eq_false_iff_ne, Int.natCast_inj] at b2p
      have hil : i = ws.length := by omega
      subst hil
      refine aw_exit ?_
      refine then_x ?_
      refine then_x ?_
      refine inb_e ?_
      refine then_n ?_
      refine aw_seq ?_
      refine aw_region ?_
      refine rr_pure (rp rfl) rfl rfl rfl ?_
      refine rr_nil rfl ?_
      refine then_n ?_
      refine aw_ret ?_
      exact fin_b rfl (okList_t b1p hi.2).symm
theorem okList_m {ws : List Wn} {i k : Nat} {x y : Wn} (hx : ws[i]? = some x) (hy : ws[k]? = some y) (hk : k < i) (hm : meet y x = true) : okList ws = false :=
  okList_f hx (List.any_eq_true.2 ⟨y, List.mem_of_getElem? (i := k) (by rw [List.getElem?_take, if_pos hk, hy]), by rw [meet_comm]; exact hm⟩)
theorem c44 {K : List (Nat × Go.Obj)} [hK : Nonempty (KOk K)] (H : Heap) {v : AC} {ws : List Wn} (hr : Rd (cx K) H 6 eW v ws) (hn : ws.length ≤ 2 ^ 40) : ACalls (cx K) 44 [.c v] H (Vb (okList ws)) H := by
  refine acalls0 Tryd.func44 rfl rfl (fun S hS hw => ?_)
  refine aw_seq ?_
  refine aw_region ?_
  refine rr_pure (rp rfl) rfl rfl rfl ?_
  refine rr_nil rfl ?_
  refine then_n ?_
  refine aw_seq ?_
  refine aw_seq ?_
  refine aw_region ?_
  refine rr_pure (rp rfl) rfl rfl rfl ?_
  first
    | refine rr_pure (rp rfl) rfl rfl rfl ?_
    | refine rr_pure (r_lenR rfl rfl rfl ⟨_, _, hr⟩) rfl rfl rfl ?_
  refine rr_pure (rp rfl) rfl rfl rfl ?_
  refine rr_nil rfl ?_
  refine then_n ?_
  refine aw_cond rfl (fun b1 => ?_) (fun b1 => ?_)
  · have b1p := b1; try simp only [s_inj, decide_eq_true_eq, decide_eq_false_iff_not, Bool.not_eq_true', Bool.not_eq_false', bne_iff_ne, ne_eq, bne_eq_false_iff_eq, beq_iff_eq, beq_eq_false_iff_ne, Int.natCast_inj] at b1p
    refine aw_seq ?_
    refine aw_region ?_
    refine rr_pure (rp rfl) rfl rfl rfl ?_
    refine rr_nil rfl ?_
    refine then_n ?_
    refine aw_ret ?_
    refine then_r ?_
    exact fin_b rfl (okList_a (by rw [areW, decide_eq_false (by omega)]; simp)).symm
  · have b1p := b1; try simp only [s_inj, decide_eq_true_eq, decide_eq_false_iff_not, Bool.not_eq_true', Bool.not_eq_false', bne_iff_ne, ne_eq, bne_eq_false_iff_eq, beq_iff_eq, beq_eq_false_iff_ne, Int.natCast_inj] at b1p
    have h12 : ws.length ≤ 12 := by omega
    refine aw_skip ?_
    refine then_n ?_
    refine aw_seq ?_
    refine aw_seq ?_
    refine aw_region ?_
    refine rr_pure (rp rfl) rfl rfl rfl ?_
    refine rr_nil rfl ?_
    refine then_n ?_
    refine aw_block ?_
    refine aw_loop (σ := Nat) (fun i => [(0, sC v), (3, sI i)]) (fun _ => _) (fun i => i ≤ ws.length ∧ (List.range i).all (wP ws) = true ∧ (List.range i).all (freeW ws) = true) (fun i => ws.length - i) (0) (by simp) (by repeat (first | exact Sub.nil _ | refine Sub.cons rfl ?_)) rfl ?_
    intro i hi
    refine aw_seq ?_
    refine aw_seq ?_
    refine aw_region ?_
    refine rr_pure (rp rfl) rfl rfl rfl ?_
    refine rr_pure (rp rfl) rfl rfl rfl ?_
    first
      | refine rr_pure (rp rfl) rfl rfl rfl ?_
      | refine rr_pure (r_lenR rfl rfl rfl ⟨_, _, hr⟩) rfl rfl rfl ?_
    refine rr_pure (rp rfl) rfl rfl rfl ?_
    refine rr_nil rfl ?_
    refine then_n ?_
    refine aw_cond rfl (fun b2 => ?_) (fun b2 => ?_)
    · have b2p := b2; try simp only [s_inj, decide_eq_true_eq, decide_eq_false_iff_not, Bool.not_eq_true', Bool.not_eq_false', bne_iff_ne, ne_eq, bne_eq_false_iff_eq, beq_iff_eq, beq_eq_false_iff_ne, Int.natCast_inj] at b2p
      obtain ⟨x, hx⟩ := at_lt ws (i := i) (by omega)
      refine aw_skip ?_
      refine then_n ?_
      refine aw_seq ?_
      refine aw_block ?_
      refine aw_seq ?_
      refine aw_seq ?_
      refine aw_region_draw ?_
      refine rr_pure (rp rfl) rfl rfl rfl ?_
      refine rr_pure (rp rfl) rfl rfl rfl ?_
      refine rr_pure (r_idxR rfl rfl rfl rfl rfl ⟨_, _, hr⟩ (by omega) (by omega)) rfl rfl rfl ?_
      refine rr_read (r_loadA rfl rfl rfl (Rd.at hr hx) rfl) rfl rfl rfl ?_
      refine rr_read (r_callF rfl rfl rfl (c62 _)) rfl rfl rfl  ?_
      refine rr_pure (rp rfl) rfl rfl rfl ?_
      refine rr_pure (rp rfl) rfl rfl rfl ?_
      refine rr_split rfl (fun g3 => ?_) (fun g3 => ?_)
      · have g3p := g3; try simp only [s_inj, decide_eq_true_eq, decide_eq_false_iff_not, Bool.not_eq_true', Bool.not_eq_false', bne_iff_ne, ne_eq, bne_eq_false_iff_eq, beq_iff_eq, beq_eq_false_iff_ne, Int.natCast_inj] at g3p
        refine rr_skip rfl rfl g3 ?_
        refine rr_skip rfl rfl g3 ?_
        refine rr_skip rfl rfl g3 ?_
        refine rr_skip rfl rfl rfl ?_
        refine rr_skip rfl rfl rfl ?_
        refine rr_skip rfl rfl rfl ?_
        refine rr_skip rfl rfl rfl ?_
        refine rr_skip rfl rfl rfl ?_
        refine rr_skip rfl rfl rfl ?_
        refine rr_skip rfl rfl rfl ?_
        refine rr_skip rfl rfl rfl ?_
        refine rr_skip rfl rfl rfl ?_
        refine rr_skip rfl rfl rfl ?_
        refine rr_skip rfl rfl rfl ?_
        refine rr_skip rfl rfl rfl ?_
        refine rr_skip rfl rfl g3 ?_
        refine rr_pure (r_pick_t rfl rfl g3 rfl) rfl rfl rfl ?_
        refine rr_nil (by kernel_rfl) ?_
        refine then_n ?_
        refine aw_cond rfl (fun _ => ?_) (fun b4 => by first | cases b4 | (rw [b4] at b4; cases b4) | simp_all)
        refine aw_seq ?_
        refine aw_region ?_
        refine rr_pure (rp rfl) rfl rfl rfl ?_
        refine rr_nil rfl ?_
        refine then_n ?_
        refine aw_ret ?_
        refine then_r ?_
        refine inb_r ?_
        refine then_r ?_
        refine then_r ?_
        refine inb_r ?_
        refine then_r ?_
        exact fin_b rfl (okList_a (areW_f (by omega) (wP_f1 hx g3p))).symm
      · have g3p := g3; try simp only [s_inj, decide_eq_true_eq, decide_eq_false_iff_not, Bool.not_eq_true', Bool.not_eq_false', bne_iff_ne, ne_eq, bne_eq_false_iff_eq, beq_iff_eq, beq_eq_false_iff_ne, Int.natCast_inj] at g3p
        refine rr_pure (rp rfl) rfl rfl g3 ?_
        refine rr_pure (rp rfl) rfl rfl g3 ?_
        refine rr_pure (rp rfl) rfl rfl g3 ?_
        refine rr_split rfl (fun g5 => ?_) (fun g5 => ?_)
        · have g5p := g5; try simp only [s_inj, decide_eq_true_eq, decide_eq_false_iff_not, Bool.not_eq_true', Bool.not_eq_false', bne_iff_ne, ne_eq, bne_eq_false_iff_eq, beq_iff_eq, beq_eq_false_iff_ne, Int.natCast_inj] at g5p
          refine rr_pure (rp rfl) rfl rfl g5 ?_
          refine rr_pure (rp rfl) rfl rfl g5 ?_
          have hp := at_prev w0 (xs := ws) (i := i) (by omega) (by omega)
          refine rr_pure (r_subn rfl rfl rfl ⟨by omega, by omega⟩) rfl rfl g5 ?_
          refine rr_pure (r_idxR rfl rfl rfl rfl rfl ⟨_, _, hr⟩ (by omega) (by omega)) rfl rfl g5 ?_
          refine rr_pure (rp rfl) rfl rfl g5 ?_
          refine rr_read (r_loadA rfl rfl rfl (Rd.atf hr hp 0 1 (by decide)) rfl) rfl rfl g5 ?_
          refine rr_pure (rp rfl) rfl rfl g5 ?_
          refine rr_pure (rp rfl) rfl rfl g5 ?_
          refine rr_pure (r_idxR rfl rfl rfl rfl rfl ⟨_, _, hr⟩ (by omega) (by omega)) rfl rfl g5 ?_
          refine rr_pure (rp rfl) rfl rfl g5 ?_
          refine rr_read (r_loadA rfl rfl rfl (Rd.atf hr hx 0 1 (by decide)) rfl) rfl rfl g5 ?_
          refine rr_pure (rp rfl) rfl rfl g5 ?_
          refine rr_pure (r_pick_t rfl rfl g5 rfl) rfl rfl g3 ?_
          refine rr_pure (r_pick_f rfl rfl g3 rfl) rfl rfl rfl ?_
          refine rr_nil (by kernel_rfl) ?_
          refine then_n ?_
          refine aw_cond rfl (fun b6 => ?_) (fun b6 => ?_)
          · have b6p := b6; try simp only [s_inj, decide_eq_true_eq, decide_eq_false_iff_not, Bool.not_eq_true', Bool.not_eq_false', bne_iff_ne, ne_eq, bne_eq_false_iff_eq, beq_iff_eq, beq_eq_false_iff_ne, Int.natCast_inj] at b6p
            refine aw_seq ?_
            refine aw_region ?_
            refine rr_pure (rp rfl) rfl rfl rfl ?_
            refine rr_nil rfl ?_
            refine then_n ?_
            refine aw_ret ?_
            refine then_r ?_
            refine inb_r ?_
            refine then_r ?_
            refine then_r ?_
            refine inb_r ?_
            refine then_r ?_
            exact fin_b rfl (okList_a (areW_f (by omega) (wP_f2 hx (by omega) (by omega)))).symm
          · have b6p := b6; try simp only [s_inj, decide_eq_true_eq, decide_eq_false_iff_not, Bool.not_eq_true', Bool.not_eq_false', bne_iff_ne, ne_eq, bne_eq_false_iff_eq, beq_iff_eq, beq_eq_false_iff_ne, Int.natCast_inj] at b6p
            refine aw_skip ?_
            refine then_n ?_
            refine aw_seq ?_
            refine aw_region ?_
            refine rr_pure (rp rfl) rfl rfl rfl ?_
            refine rr_nil rfl ?_
            refine then_n ?_
            refine aw_block ?_
            refine aw_loop (σ := Nat) (fun k => [(0, sC v), (3, sI i), (4, sI k)]) (fun _ => _) (fun k => k ≤ i ∧ (ws.take k).any (meet x) = false) (fun k => i - k) (0) (by simp) (by repeat (first | exact Sub.nil _ | refine Sub.cons rfl ?_)) rfl ?_
            intro k hk
            refine aw_seq ?_
            refine aw_seq ?_
            refine aw_region ?_
            refine rr_pure (rp rfl) rfl rfl rfl ?_
            refine rr_pure (rp rfl) rfl rfl rfl ?_
            refine rr_pure (rp rfl) rfl rfl rfl ?_
            refine rr_nil rfl ?_
            refine then_n ?_
            refine aw_cond rfl (fun b7 => ?_) (fun b7 => ?_)
            · have b7p := b7; try simp only [s_inj, decide_eq_true_eq, decide_eq_false_iff_not, Bool.not_eq_true', Bool.not_eq_false', bne_iff_ne, ne_eq, bne_eq_false_iff_eq, beq_iff_eq, beq_eq_false_iff_ne, Int.natCast_inj] at b7p
              refine aw_skip ?_
              refine then_n ?_
              refine aw_seq ?_
              refine aw_block ?_
              refine aw_seq ?_
              refine aw_region_draw ?_
              obtain ⟨y, hy⟩ := at_lt ws (i := k) (by omega)
              refine rr_pure (rp rfl) rfl rfl rfl ?_
              refine rr_pure (rp rfl) rfl rfl rfl ?_
              refine rr_pure (r_idxR rfl rfl rfl rfl rfl ⟨_, _, hr⟩ (by omega) (by omega)) rfl rfl rfl ?_
              refine rr_read (r_loadA rfl rfl rfl (Rd.at hr hy) rfl) rfl rfl rfl ?_
              refine rr_pure (rp rfl) rfl rfl rfl ?_
              refine rr_pure (rp rfl) rfl rfl rfl ?_
              refine rr_pure (r_idxR rfl rfl rfl rfl rfl ⟨_, _, hr⟩ (by omega) (by omega)) rfl rfl rfl ?_
              refine rr_read (r_loadA rfl rfl rfl (Rd.at hr hx) rfl) rfl rfl rfl ?_
              refine rr_read (r_callF rfl rfl rfl (c63 _)) rfl rfl rfl  ?_
              refine rr_nil (by kernel_rfl) ?_
              refine then_n ?_
              refine aw_cond rfl (fun b8 => ?_) (fun b8 => ?_)
              · have b8p := b8; try simp only [s_inj, decide_eq_true_eq, decide_eq_false_iff_not, Bool.not_eq_true', Bool.not_eq_false', bne_iff_ne, ne_eq, bne_eq_false_iff_eq, beq_iff_eq, beq_eq_false_iff_ne, Int.natCast_inj] at b8p
                refine aw_seq ?_
                refine aw_region ?_
                refine rr_pure (rp rfl) rfl rfl rfl ?_
                refine rr_nil rfl ?_
                refine then_n ?_
                refine aw_ret ?_
                refine inb_r ?_
                refine then_r ?_
                refine then_r ?_
                refine inb_r ?_
                refine inb_r ?_
                refine then_r ?_
                refine then_r ?_
                refine inb_r ?_
                refine then_r ?_
                exact fin_b rfl (okList_m hx hy (by omega) b8p).symm
              · have b8p := b8; try simp only [s_inj, decide_eq_true_eq, decide_eq_false_iff_not, Bool.not_eq_true', Bool.not_eq_false', bne_iff_ne, ne_eq, bne_eq_false_iff_eq, beq_iff_eq, beq_eq_false_iff_ne, Int.natCast_inj] at b8p
                refine aw_skip ?_
                refine inb_n ?_
                refine then_n ?_
                refine aw_region ?_
                refine rr_pure (rp rfl) rfl rfl rfl ?_
                refine rr_pure (r_addn rfl rfl rfl ⟨by omega, by omega⟩) rfl rfl rfl ?_
                refine rr_pure (rp rfl) rfl rfl rfl ?_
                refine rr_nil rfl ?_
                refine then_n ?_
                exact ⟨k + 1, ⟨by omega, by rw [List.take_add_one, hy, List.any_append, hk.2]; simp only [Option.toList_some, List.any_cons, List.any_nil, Bool.false_or, Bool.or_false]; rw [meet_comm]; assumption⟩, by omega, (by repeat (first | exact Sub.nil _ | refine Sub.cons rfl ?_)), rfl⟩
            · have b7p := b7; try simp only [s_inj, decide_eq_true_eq, decide_eq_false_iff_not, Bool.not_eq_true', Bool.not_eq_false', bne_iff_ne, ne_eq, bne_eq_false_iff_eq, beq_iff_eq, beq_eq_false_iff_ne, Int.natCast_inj] at b7p
              refine aw_exit ?_
              refine then_x ?_
              refine then_x ?_
              refine inb_e ?_
              refine inb_n ?_
              refine then_n ?_
              refine aw_region ?_
              refine rr_pure (rp rfl) rfl rfl rfl ?_
              refine rr_pure (r_addn rfl rfl rfl ⟨by omega, by omega⟩) rfl rfl rfl ?_
              refine rr_pure (rp rfl) rfl rfl rfl ?_
              refine rr_nil rfl ?_
              refine then_n ?_
              exact ⟨i + 1, ⟨by omega, range_step hi.2.1 (by first | exact wP_t hx g3p (.inl (by omega)) | exact wP_t hx g3p (.inr (by omega))), range_step hi.2.2 (by rw [freeW_at hx, show i = k by omega, hk.2]; rfl)⟩, by omega, (by repeat (first | exact Sub.nil _ | refine Sub.cons rfl ?_)), rfl⟩
        · have g5p := g5; try simp only [s_inj, decide_eq_true_eq, decide_eq_false_iff_not, Bool.not_eq_true', Bool.not_eq_false', bne_iff_ne, ne_eq, bne_eq_false_iff_eq, beq_iff_eq, beq_eq_false_iff_ne, Int.natCast_inj] at g5p
          refine rr_skip rfl rfl g5 ?_
          refine rr_skip rfl rfl g5 ?_
          refine rr_skip rfl rfl g5 ?_
          refine rr_skip rfl rfl g5 ?_
          refine rr_skip rfl rfl g5 ?_
          refine rr_skip rfl rfl g5 ?_
          refine rr_skip rfl rfl g5 ?_
          refine rr_skip rfl rfl g5 ?_
          refine rr_skip rfl rfl g5 ?_
          refine rr_skip rfl rfl g5 ?_
          refine rr_skip rfl rfl g5 ?_
          refine rr_skip rfl rfl g5 ?_
          refine rr_pure (r_pick_f rfl rfl g5 rfl) rfl rfl g3 ?_
          refine rr_pure (r_pick_f rfl rfl g3 rfl) rfl rfl rfl ?_
          refine rr_nil (by kernel_rfl) ?_
          refine then_n ?_
          refine aw_cond rfl (fun b9 => by first | cases b9 | (rw [b9] at b9; cases b9) | simp_all) (fun _ => ?_)
          refine aw_skip ?_
          refine then_n ?_
          refine aw_seq ?_
          refine aw_region ?_
          refine rr_pure (rp rfl) rfl rfl rfl ?_
          refine rr_nil rfl ?_
          refine then_n ?_
          refine aw_block ?_
          refine aw_loop (σ := Nat) (fun k => [(0, sC v), (3, sI i), (4, sI k)]) (fun _ => _) (fun k => k ≤ i ∧ (ws.take k).any (meet x) = false) (fun k => i - k) (0) (by simp) (by repeat (first | exact Sub.nil _ | refine Sub.cons rfl ?_)) rfl ?_
          intro k hk
          refine aw_seq ?_
          refine aw_seq ?_
          refine aw_region ?_
          refine rr_pure (rp rfl) rfl rfl rfl ?_
          refine rr_pure (rp rfl) rfl rfl rfl ?_
          refine rr_pure (rp rfl) rfl rfl rfl ?_
          refine rr_nil rfl ?_
          refine then_n ?_
          refine aw_cond rfl (fun b10 => ?_) (fun b10 => ?_)
          · have b10p := b10; try simp only [s_inj, decide_eq_true_eq, decide_eq_false_iff_not, Bool.not_eq_true', Bool.not_eq_false', bne_iff_ne, ne_eq, bne_eq_false_iff_eq, beq_iff_eq, beq_eq_false_iff_ne, Int.natCast_inj] at b10p
            refine aw_skip ?_
            refine then_n ?_
            refine aw_seq ?_
            refine aw_block ?_
            refine aw_seq ?_
            refine aw_region_draw ?_
            obtain ⟨y, hy⟩ := at_lt ws (i := k) (by omega)
            refine rr_pure (rp rfl) rfl rfl rfl ?_
            refine rr_pure (rp rfl) rfl rfl rfl ?_
            refine rr_pure (r_idxR rfl rfl rfl rfl rfl ⟨_, _, hr⟩ (by omega) (by omega)) rfl rfl rfl ?_
            refine rr_read (r_loadA rfl rfl rfl (Rd.at hr hy) rfl) rfl rfl rfl ?_
            refine rr_pure (rp rfl) rfl rfl rfl ?_
            refine rr_pure (rp rfl) rfl rfl rfl ?_
            refine rr_pure (r_idxR rfl rfl rfl rfl rfl ⟨_, _, hr⟩ (by omega) (by omega)) rfl rfl rfl ?_
            refine rr_read (r_loadA rfl rfl rfl (Rd.at hr hx) rfl) rfl rfl rfl ?_
            refine rr_read (r_callF rfl rfl rfl (c63 _)) rfl rfl rfl  ?_
            refine rr_nil (by kernel_rfl) ?_
            refine then_n ?_
            refine aw_cond rfl (fun b11 => ?_) (fun b11 => ?_)
            · have b11p := b11; try simp only [s_inj, decide_eq_true_eq, decide_eq_false_iff_not, Bool.not_eq_true', Bool.not_eq_false', bne_iff_ne, ne_eq, bne_eq_false_iff_eq, beq_iff_eq, beq_eq_false_iff_ne, Int.natCast_inj] at b11p
              refine aw_seq ?_
              refine aw_region ?_
              refine rr_pure (rp rfl) rfl rfl rfl ?_
              refine rr_nil rfl ?_
              refine then_n ?_
              refine aw_ret ?_
              refine inb_r ?_
              refine then_r ?_
              refine then_r ?_
              refine inb_r ?_
              refine inb_r ?_
              refine then_r ?_
              refine then_r ?_
              refine inb_r ?_
              refine then_r ?_
              exact fin_b rfl (okList_m hx hy (by omega) b11p).symm
            · have b11p := b11; try simp only [s_inj, decide_eq_true_eq, decide_eq_false_iff_not, Bool.not_eq_true', Bool.not_eq_false', bne_iff_ne, ne_eq, bne_eq_false_iff_eq, beq_iff_eq, beq_eq_false_iff_ne, Int.natCast_inj] at b11p
              refine aw_skip ?_
              refine inb_n ?_
              refine then_n ?_
              refine aw_region ?_
              refine rr_pure (rp rfl) rfl rfl rfl ?_
              refine rr_pure (r_addn rfl rfl rfl ⟨by omega, by omega⟩) rfl rfl rfl ?_
              refine rr_pure (rp rfl) rfl rfl rfl ?_
              refine rr_nil rfl ?_
              refine then_n ?_
              exact ⟨k + 1, ⟨by omega, by rw [List.take_add_one, hy, List.any_append, hk.2]; simp only [Option.toList_some, List.any_cons, List.any_nil, Bool.false_or, Bool.or_false]; rw [meet_comm]; assumption⟩, by omega, (by repeat (first | exact Sub.nil _ | refine Sub.cons rfl ?_)), rfl⟩
          · have b10p := b10; try simp only [s_inj, decide_eq_true_eq, decide_eq_false_iff_not, Bool.not_eq_true', Bool.not_eq_false', bne_iff_ne, ne_eq, bne_eq_false_iff_eq, beq_iff_eq, beq_eq_false_iff_ne, Int.natCast_inj] at b10p
            refine aw_exit ?_
            refine then_x ?_
            refine then_x ?_
            refine inb_e ?_
            refine inb_n ?_
            refine then_n ?_
            refine aw_region ?_
            refine rr_pure (rp rfl) rfl rfl rfl ?_
            refine rr_pure (r_addn rfl rfl rfl ⟨by omega, by omega⟩) rfl rfl rfl ?_
            refine rr_pure (rp rfl) rfl rfl rfl ?_
            refine rr_nil rfl ?_
            refine then_n ?_
            exact ⟨i + 1, ⟨by omega, range_step hi.2.1 (by first | exact wP_t hx g3p (.inl (by omega)) | exact wP_t hx g3p (.inr (by omega))), range_step hi.2.2 (by rw [freeW_at hx, show i = k by omega, hk.2]; rfl)⟩, by omega, (by repeat (first | exact Sub.nil _ | refine Sub.cons rfl ?_)), rfl⟩
    · have b2p := b2; try simp only [s_inj, decide_eq_true_eq, decide_eq_false_iff_not, Bool.not_eq_true', Bool.not_eq_false', bne_iff_ne, ne_eq, bne_eq_false_iff_eq, beq_iff_eq, beq_eq_false_iff_ne, Int.natCast_inj] at b2p
      have hil : i = ws.length := by omega
      subst hil
      refine aw_exit ?_
      refine then_x ?_
      refine then_x ?_
      refine inb_e ?_
      refine then_n ?_
      refine aw_seq ?_
      refine aw_region ?_
      refine rr_pure (rp rfl) rfl rfl rfl ?_
      refine rr_nil rfl ?_
      refine then_n ?_
      refine aw_ret ?_
      exact fin_b rfl (okList_t (by rw [areW_t hi.2.1]; exact decide_eq_true h12) hi.2.2).symm
end Go.Proofs.YtfdopoijhjbamaaDoor
