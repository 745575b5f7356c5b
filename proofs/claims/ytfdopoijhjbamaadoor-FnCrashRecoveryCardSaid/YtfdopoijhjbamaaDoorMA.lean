/- Warnings: what is valid, what meets; the functions on them. -/
import Derived.Test.YtfdopoijhjbamaaDoorM9
namespace Go.Proofs.YtfdopoijhjbamaaDoor
open Go.Aw Go.RowKit
set_option maxRecDepth 100000
set_option linter.unusedSimpArgs false
set_option linter.unusedVariables false
structure Wn where
  i : Int
  t : Int
  l : Int
  a : Int
  f : Int
  u : Int
  deriving DecidableEq
def eW (w : Wn) : List AC := [.s (.int .i64 w.i), .s (.int .i64 w.t), .s (.int .i64 w.l), .s (.int .i64 w.a), .s (.int .i64 w.f), .s (.int .i64 w.u)]
abbrev aW (w : Wn) : AV := .ag (eW w)
theorem lW : ∀ x, (eW x).length = 6 := fun _ => rfl
theorem pW : ∀ x, ∀ c ∈ eW x, c.ids = [] := fun x c hc => by simp only [eW, List.mem_cons, List.not_mem_nil, or_false] at hc; rcases hc with rfl | rfl | rfl | rfl | rfl | rfl <;> rfl
abbrev bW (xs : List Wn) : Option Blk := some ⟨xs.flatMap eW, true, 6⟩
def okW (w : Wn) : Bool := within w.i 1 999 && within w.t 1 5 && within w.l 1 3 && within w.a 1 9 && decide (0 ≤ w.f) && decide (w.f < w.u) && decide (w.u ≤ 240)
def meet (a b : Wn) : Bool := decide (a.t = b.t) && decide (a.a = b.a) && decide (a.f < b.u) && decide (b.f < a.u)
theorem c64 {K : List (Nat × Go.Obj)} [hK : Nonempty (KOk K)] (H : Heap) {w : Wn} : ACalls (cx K) 64 [aW w] H (Vb (okW w)) H := by
  refine acalls0 Tryd.func64 rfl rfl (fun S hS hw => ?_)
  refine aw_seq ?_
  refine aw_region ?_
  refine rr_memL (r_boxL rfl rfl) rfl rfl rfl ?_
  refine rr_pure (rp rfl) rfl rfl rfl ?_
  refine rr_nil rfl ?_
  refine then_n ?_
  refine aw_seq ?_
  refine aw_region ?_
  refine rr_pure (rp rfl) rfl rfl rfl ?_
  first
    | refine rr_read (r_loadL rfl rfl rfl rfl rfl) rfl rfl rfl ?_
    | refine rr_read (r_loadA rfl rfl rfl (Rd.at (by assumption) (by assumption)) rfl) rfl rfl rfl ?_
  refine rr_read (r_callF rfl rfl rfl (c23 _)) rfl rfl rfl  ?_
  refine rr_pure (rp rfl) rfl rfl rfl ?_
  refine rr_split rfl (fun g1 => ?_) (fun g1 => ?_)
  · have g1p := g1; try simp only [s_inj, decide_eq_true_eq, decide_eq_false_iff_not, Bool.not_eq_true', Bool.not_eq_false', bne_iff_ne, ne_eq, bne_eq_false_iff_eq, beq_iff_eq, beq_eq_false_iff_ne, Int.natCast_inj] at g1p
    refine rr_pure (rp rfl) rfl rfl g1 ?_
    first
      | refine rr_read (r_loadL rfl rfl rfl rfl rfl) rfl rfl g1 ?_
      | refine rr_read (r_loadA rfl rfl rfl (Rd.at (by assumption) (by assumption)) rfl) rfl rfl g1 ?_
    refine rr_read (r_callF rfl rfl rfl (c23 _)) rfl rfl g1  ?_
    refine rr_pure (r_pick_t rfl rfl g1 rfl) rfl rfl rfl ?_
    refine rr_pure (rp rfl) rfl rfl rfl ?_
    refine rr_split rfl (fun g2 => ?_) (fun g2 => ?_)
    · have g2p := g2; try simp only [s_inj, decide_eq_true_eq, decide_eq_false_iff_not, Bool.not_eq_true', Bool.not_eq_false', bne_iff_ne, ne_eq, bne_eq_false_iff_eq, beq_iff_eq, beq_eq_false_iff_ne, Int.natCast_inj] at g2p
      refine rr_pure (rp rfl) rfl rfl g2 ?_
      first
        | refine rr_read (r_loadL rfl rfl rfl rfl rfl) rfl rfl g2 ?_
        | refine rr_read (r_loadA rfl rfl rfl (Rd.at (by assumption) (by assumption)) rfl) rfl rfl g2 ?_
      refine rr_read (r_callF rfl rfl rfl (c23 _)) rfl rfl g2  ?_
      refine rr_pure (r_pick_t rfl rfl g2 rfl) rfl rfl rfl ?_
      refine rr_pure (rp rfl) rfl rfl rfl ?_
      refine rr_split rfl (fun g3 => ?_) (fun g3 => ?_)
      · have g3p := g3; try simp only [s_inj, decide_eq_true_eq, decide_eq_false_iff_not, Bool.not_eq_true', Bool.not_eq_false', bne_iff_ne, ne_eq, bne_eq_false_iff_eq, beq_iff_eq, beq_eq_false_iff_ne, Int.natCast_inj] at g3p
        refine rr_pure (rp rfl) rfl rfl g3 ?_
        first
          | refine rr_read (r_loadL rfl rfl rfl rfl rfl) rfl rfl g3 ?_
          | refine rr_read (r_loadA rfl rfl rfl (Rd.at (by assumption) (by assumption)) rfl) rfl rfl g3 ?_
        refine rr_read (r_callF rfl rfl rfl (c23 _)) rfl rfl g3  ?_
        refine rr_pure (r_pick_t rfl rfl g3 rfl) rfl rfl rfl ?_
        refine rr_pure (rp rfl) rfl rfl rfl ?_
        refine rr_split rfl (fun g4 => ?_) (fun g4 => ?_)
        · have g4p := g4; try simp only [s_inj, decide_eq_true_eq, decide_eq_false_iff_not, Bool.not_eq_true', Bool.not_eq_false', bne_iff_ne, ne_eq, bne_eq_false_iff_eq, beq_iff_eq, beq_eq_false_iff_ne, Int.natCast_inj] at g4p
          refine rr_pure (rp rfl) rfl rfl g4 ?_
          first
            | refine rr_read (r_loadL rfl rfl rfl rfl rfl) rfl rfl g4 ?_
            | refine rr_read (r_loadA rfl rfl rfl (Rd.at (by assumption) (by assumption)) rfl) rfl rfl g4 ?_
          refine rr_pure (rp rfl) rfl rfl g4 ?_
          refine rr_pure (r_pick_t rfl rfl g4 rfl) rfl rfl rfl ?_
          refine rr_pure (rp rfl) rfl rfl rfl ?_
          refine rr_split rfl (fun g5 => ?_) (fun g5 => ?_)
          · have g5p := g5; try simp only [s_inj, decide_eq_true_eq, decide_eq_false_iff_not, Bool.not_eq_true', Bool.not_eq_false', bne_iff_ne, ne_eq, bne_eq_false_iff_eq, beq_iff_eq, beq_eq_false_iff_ne, Int.natCast_inj] at g5p
            refine rr_pure (rp rfl) rfl rfl g5 ?_
            first
              | refine rr_read (r_loadL rfl rfl rfl rfl rfl) rfl rfl g5 ?_
              | refine rr_read (r_loadA rfl rfl rfl (Rd.at (by assumption) (by assumption)) rfl) rfl rfl g5 ?_
            refine rr_pure (rp rfl) rfl rfl g5 ?_
            first
              | refine rr_read (r_loadL rfl rfl rfl rfl rfl) rfl rfl g5 ?_
              | refine rr_read (r_loadA rfl rfl rfl (Rd.at (by assumption) (by assumption)) rfl) rfl rfl g5 ?_
            refine rr_pure (rp rfl) rfl rfl g5 ?_
            refine rr_pure (r_pick_t rfl rfl g5 rfl) rfl rfl rfl ?_
            refine rr_pure (rp rfl) rfl rfl rfl ?_
            refine rr_split rfl (fun g6 => ?_) (fun g6 => ?_)
            · have g6p := g6; try simp only [s_inj, decide_eq_true_eq, decide_eq_false_iff_not, Bool.not_eq_true', Bool.not_eq_false', bne_iff_ne, ne_eq, bne_eq_false_iff_eq, beq_iff_eq, beq_eq_false_iff_ne, Int.natCast_inj] at g6p
              refine rr_pure (rp rfl) rfl rfl g6 ?_
              first
                | refine rr_read (r_loadL rfl rfl rfl rfl rfl) rfl rfl g6 ?_
                | refine rr_read (r_loadA rfl rfl rfl (Rd.at (by assumption) (by assumption)) rfl) rfl rfl g6 ?_
              refine rr_pure (rp rfl) rfl rfl g6 ?_
              refine rr_pure (r_pick_t rfl rfl g6 rfl) rfl rfl rfl ?_
              refine rr_pure (rp rfl) rfl rfl rfl ?_
              refine rr_nil rfl ?_
              refine then_n ?_
              refine aw_ret ?_
              exact fin_b rfl (by simp_all [okW] <;> omega)
            · have g6p := g6; try simp only [s_inj, decide_eq_true_eq, decide_eq_false_iff_not, Bool.not_eq_true', Bool.not_eq_false', bne_iff_ne, ne_eq, bne_eq_false_iff_eq, beq_iff_eq, beq_eq_false_iff_ne, Int.natCast_inj] at g6p
              refine rr_skip rfl rfl g6 ?_
              refine rr_skip rfl rfl g6 ?_
              refine rr_skip rfl rfl g6 ?_
              refine rr_pure (r_pick_f rfl rfl g6 rfl) rfl rfl rfl ?_
              refine rr_pure (rp rfl) rfl rfl rfl ?_
              refine rr_nil rfl ?_
              refine then_n ?_
              refine aw_ret ?_
              exact fin_b rfl (by simp_all [okW] <;> omega)
          · have g5p := g5; try simp only [s_inj, decide_eq_true_eq, decide_eq_false_iff_not, Bool.not_eq_true', Bool.not_eq_false', bne_iff_ne, ne_eq, bne_eq_false_iff_eq, beq_iff_eq, beq_eq_false_iff_ne, Int.natCast_inj] at g5p
            refine rr_skip rfl rfl g5 ?_
            refine rr_skip rfl rfl g5 ?_
            refine rr_skip rfl rfl g5 ?_
            refine rr_skip rfl rfl g5 ?_
            refine rr_skip rfl rfl g5 ?_
            refine rr_pure (r_pick_f rfl rfl g5 rfl) rfl rfl rfl ?_
            refine rr_pure (rp rfl) rfl rfl rfl ?_
            refine rr_skip rfl rfl rfl ?_
            refine rr_skip rfl rfl rfl ?_
            refine rr_skip rfl rfl rfl ?_
            refine rr_pure (r_pick_f rfl rfl rfl rfl) rfl rfl rfl ?_
            refine rr_pure (rp rfl) rfl rfl rfl ?_
            refine rr_nil rfl ?_
            refine then_n ?_
            refine aw_ret ?_
            exact fin_b rfl (by simp_all [okW] <;> omega)
        · have g4p := g4; try simp only [s_inj, decide_eq_true_eq, decide_eq_false_iff_not, Bool.not_eq_true', Bool.not_eq_false', bne_iff_ne, ne_eq, bne_eq_false_iff_eq, beq_iff_eq, beq_eq_false_iff_ne, Int.natCast_inj] at g4p
          refine rr_skip rfl rfl g4 ?_
          refine rr_skip rfl rfl g4 ?_
          refine rr_skip rfl rfl g4 ?_
          refine rr_pure (r_pick_f rfl rfl g4 rfl) rfl rfl rfl ?_
          refine rr_pure (rp rfl) rfl rfl rfl ?_
          refine rr_skip rfl rfl rfl ?_
          refine rr_skip rfl rfl rfl ?_
          refine rr_skip rfl rfl rfl ?_
          refine rr_skip rfl rfl rfl ?_
          refine rr_skip rfl rfl rfl ?_
          refine rr_pure (r_pick_f rfl rfl rfl rfl) rfl rfl rfl ?_
          refine rr_pure (rp rfl) rfl rfl rfl ?_
          refine rr_skip rfl rfl rfl ?_
          refine rr_skip rfl rfl rfl ?_
          refine rr_skip rfl rfl rfl ?_
          refine rr_pure (r_pick_f rfl rfl rfl rfl) rfl rfl rfl ?_
          refine rr_pure (rp rfl) rfl rfl rfl ?_
          refine rr_nil rfl ?_
          refine then_n ?_
          refine aw_ret ?_
          exact fin_b rfl (by simp_all [okW] <;> omega)
      · have g3p := g3; try simp only [s_inj, decide_eq_true_eq, decide_eq_false_iff_not, Bool.not_eq_true', Bool.not_eq_false', bne_iff_ne, ne_eq, bne_eq_false_iff_eq, beq_iff_eq, beq_eq_false_iff_ne, Int.natCast_inj] at g3p
        refine rr_skip rfl rfl g3 ?_
        refine rr_skip rfl rfl g3 ?_
        refine rr_skip rfl rfl g3 ?_
        refine rr_pure (r_pick_f rfl rfl g3 rfl) rfl rfl rfl ?_
        refine rr_pure (rp rfl) rfl rfl rfl ?_
        refine rr_skip rfl rfl rfl ?_
        refine rr_skip rfl rfl rfl ?_
        refine rr_skip rfl rfl rfl ?_
        refine rr_pure (r_pick_f rfl rfl rfl rfl) rfl rfl rfl ?_
        refine rr_pure (rp rfl) rfl rfl rfl ?_
        refine rr_skip rfl rfl rfl ?_
        refine rr_skip rfl rfl rfl ?_
        refine rr_skip rfl rfl rfl ?_
        refine rr_skip rfl rfl rfl ?_
        refine rr_skip rfl rfl rfl ?_
        refine rr_pure (r_pick_f rfl rfl rfl rfl) rfl rfl rfl ?_
        refine rr_pure (rp rfl) rfl rfl rfl ?_
        refine rr_skip rfl rfl rfl ?_
        refine rr_skip rfl rfl rfl ?_
        refine rr_skip rfl rfl rfl ?_
        refine rr_pure (r_pick_f rfl rfl rfl rfl) rfl rfl rfl ?_
        refine rr_pure (rp rfl) rfl rfl rfl ?_
        refine rr_nil rfl ?_
        refine then_n ?_
        refine aw_ret ?_
        exact fin_b rfl (by simp_all [okW] <;> omega)
    · have g2p := g2; try simp only [s_inj, decide_eq_true_eq, decide_eq_false_iff_not, Bool.not_eq_true', Bool.not_eq_false', bne_iff_ne, ne_eq, bne_eq_false_iff_eq, beq_iff_eq, beq_eq_false_iff_ne, Int.natCast_inj] at g2p
      refine rr_skip rfl rfl g2 ?_
      refine rr_skip rfl rfl g2 ?_
      refine rr_skip rfl rfl g2 ?_
      refine rr_pure (r_pick_f rfl rfl g2 rfl) rfl rfl rfl ?_
      refine rr_pure (rp rfl) rfl rfl rfl ?_
      refine rr_skip rfl rfl rfl ?_
      refine rr_skip rfl rfl rfl ?_
      refine rr_skip rfl rfl rfl ?_
      refine rr_pure (r_pick_f rfl rfl rfl rfl) rfl rfl rfl ?_
      refine rr_pure (rp rfl) rfl rfl rfl ?_
      refine rr_skip rfl rfl rfl ?_
      refine rr_skip rfl rfl rfl ?_
      refine rr_skip rfl rfl rfl ?_
      refine rr_pure (r_pick_f rfl rfl rfl rfl) rfl rfl rfl ?_
      refine rr_pure (rp rfl) rfl rfl rfl ?_
      refine rr_skip rfl rfl rfl ?_
      refine rr_skip rfl rfl rfl ?_
      refine rr_skip rfl rfl rfl ?_
      refine rr_skip rfl rfl rfl ?_
      refine rr_skip rfl rfl rfl ?_
      refine rr_pure (r_pick_f rfl rfl rfl rfl) rfl rfl rfl ?_
      refine rr_pure (rp rfl) rfl rfl rfl ?_
      refine rr_skip rfl rfl rfl ?_
      refine rr_skip rfl rfl rfl ?_
      refine rr_skip rfl rfl rfl ?_
      refine rr_pure (r_pick_f rfl rfl rfl rfl) rfl rfl rfl ?_
      refine rr_pure (rp rfl) rfl rfl rfl ?_
      refine rr_nil rfl ?_
      refine then_n ?_
      refine aw_ret ?_
      exact fin_b rfl (by simp_all [okW] <;> omega)
  · have g1p := g1; try simp only [s_inj, decide_eq_true_eq, decide_eq_false_iff_not, Bool.not_eq_true', Bool.not_eq_false', bne_iff_ne, ne_eq, bne_eq_false_iff_eq, beq_iff_eq, beq_eq_false_iff_ne, Int.natCast_inj] at g1p
    refine rr_skip rfl rfl g1 ?_
    refine rr_skip rfl rfl g1 ?_
    refine rr_skip rfl rfl g1 ?_
    refine rr_pure (r_pick_f rfl rfl g1 rfl) rfl rfl rfl ?_
    refine rr_pure (rp rfl) rfl rfl rfl ?_
    refine rr_skip rfl rfl rfl ?_
    refine rr_skip rfl rfl rfl ?_
    refine rr_skip rfl rfl rfl ?_
    refine rr_pure (r_pick_f rfl rfl rfl rfl) rfl rfl rfl ?_
    refine rr_pure (rp rfl) rfl rfl rfl ?_
    refine rr_skip rfl rfl rfl ?_
    refine rr_skip rfl rfl rfl ?_
    refine rr_skip rfl rfl rfl ?_
    refine rr_pure (r_pick_f rfl rfl rfl rfl) rfl rfl rfl ?_
    refine rr_pure (rp rfl) rfl rfl rfl ?_
    refine rr_skip rfl rfl rfl ?_
    refine rr_skip rfl rfl rfl ?_
    refine rr_skip rfl rfl rfl ?_
    refine rr_pure (r_pick_f rfl rfl rfl rfl) rfl rfl rfl ?_
    refine rr_pure (rp rfl) rfl rfl rfl ?_
    refine rr_skip rfl rfl rfl ?_
    refine rr_skip rfl rfl rfl ?_
    refine rr_skip rfl rfl rfl ?_
    refine rr_skip rfl rfl rfl ?_
    refine rr_skip rfl rfl rfl ?_
    refine rr_pure (r_pick_f rfl rfl rfl rfl) rfl rfl rfl ?_
    refine rr_pure (rp rfl) rfl rfl rfl ?_
    refine rr_skip rfl rfl rfl ?_
    refine rr_skip rfl rfl rfl ?_
    refine rr_skip rfl rfl rfl ?_
    refine rr_pure (r_pick_f rfl rfl rfl rfl) rfl rfl rfl ?_
    refine rr_pure (rp rfl) rfl rfl rfl ?_
    refine rr_nil rfl ?_
    refine then_n ?_
    refine aw_ret ?_
    exact fin_b rfl (by simp_all [okW] <;> omega)
theorem okW_spec (w : Wn) : okW w = (within w.i 1 999 && within w.t 1 5 && within w.l 1 3 && within w.a 1 9 && within w.u 1 240 && within w.f 0 (w.u - 1)) := by
  rw [Bool.eq_iff_iff]
  simp only [okW, within, Bool.and_eq_true, decide_eq_true_eq]
  constructor <;> intro h <;> omega
theorem c62 {K : List (Nat × Go.Obj)} [hK : Nonempty (KOk K)] (H : Heap) {w : Wn} : ACalls (cx K) 62 [aW w] H (Vb (okW w)) H := by
  refine acalls0 Tryd.func62 rfl rfl (fun S hS hw => ?_)
  refine aw_seq ?_
  refine aw_region ?_
  refine rr_memL (r_boxL rfl rfl) rfl rfl rfl ?_
  refine rr_pure (rp rfl) rfl rfl rfl ?_
  refine rr_nil rfl ?_
  refine then_n ?_
  refine aw_seq ?_
  refine aw_region ?_
  refine rr_pure (rp rfl) rfl rfl rfl ?_
  first
    | refine rr_read (r_loadL rfl rfl rfl rfl rfl) rfl rfl rfl ?_
    | refine rr_read (r_loadA rfl rfl rfl (Rd.at (by assumption) (by assumption)) rfl) rfl rfl rfl ?_
  refine rr_read (r_callF rfl rfl rfl (c22 _)) rfl rfl rfl  ?_
  refine rr_pure (rp rfl) rfl rfl rfl ?_
  refine rr_split rfl (fun g1 => ?_) (fun g1 => ?_)
  · have g1p := g1; try simp only [s_inj, decide_eq_true_eq, decide_eq_false_iff_not, Bool.not_eq_true', Bool.not_eq_false', bne_iff_ne, ne_eq, bne_eq_false_iff_eq, beq_iff_eq, beq_eq_false_iff_ne, Int.natCast_inj] at g1p
    refine rr_pure (rp rfl) rfl rfl g1 ?_
    first
      | refine rr_read (r_loadL rfl rfl rfl rfl rfl) rfl rfl g1 ?_
      | refine rr_read (r_loadA rfl rfl rfl (Rd.at (by assumption) (by assumption)) rfl) rfl rfl g1 ?_
    refine rr_read (r_callF rfl rfl rfl (c22 _)) rfl rfl g1  ?_
    refine rr_pure (r_pick_t rfl rfl g1 rfl) rfl rfl rfl ?_
    refine rr_pure (rp rfl) rfl rfl rfl ?_
    refine rr_split rfl (fun g2 => ?_) (fun g2 => ?_)
    · have g2p := g2; try simp only [s_inj, decide_eq_true_eq, decide_eq_false_iff_not, Bool.not_eq_true', Bool.not_eq_false', bne_iff_ne, ne_eq, bne_eq_false_iff_eq, beq_iff_eq, beq_eq_false_iff_ne, Int.natCast_inj] at g2p
      refine rr_pure (rp rfl) rfl rfl g2 ?_
      first
        | refine rr_read (r_loadL rfl rfl rfl rfl rfl) rfl rfl g2 ?_
        | refine rr_read (r_loadA rfl rfl rfl (Rd.at (by assumption) (by assumption)) rfl) rfl rfl g2 ?_
      refine rr_read (r_callF rfl rfl rfl (c22 _)) rfl rfl g2  ?_
      refine rr_pure (r_pick_t rfl rfl g2 rfl) rfl rfl rfl ?_
      refine rr_pure (rp rfl) rfl rfl rfl ?_
      refine rr_split rfl (fun g3 => ?_) (fun g3 => ?_)
      · have g3p := g3; try simp only [s_inj, decide_eq_true_eq, decide_eq_false_iff_not, Bool.not_eq_true', Bool.not_eq_false', bne_iff_ne, ne_eq, bne_eq_false_iff_eq, beq_iff_eq, beq_eq_false_iff_ne, Int.natCast_inj] at g3p
        refine rr_pure (rp rfl) rfl rfl g3 ?_
        first
          | refine rr_read (r_loadL rfl rfl rfl rfl rfl) rfl rfl g3 ?_
          | refine rr_read (r_loadA rfl rfl rfl (Rd.at (by assumption) (by assumption)) rfl) rfl rfl g3 ?_
        refine rr_read (r_callF rfl rfl rfl (c22 _)) rfl rfl g3  ?_
        refine rr_pure (r_pick_t rfl rfl g3 rfl) rfl rfl rfl ?_
        refine rr_pure (rp rfl) rfl rfl rfl ?_
        refine rr_split rfl (fun g4 => ?_) (fun g4 => ?_)
        · have g4p := g4; try simp only [s_inj, decide_eq_true_eq, decide_eq_false_iff_not, Bool.not_eq_true', Bool.not_eq_false', bne_iff_ne, ne_eq, bne_eq_false_iff_eq, beq_iff_eq, beq_eq_false_iff_ne, Int.natCast_inj] at g4p
          refine rr_pure (rp rfl) rfl rfl g4 ?_
          first
            | refine rr_read (r_loadL rfl rfl rfl rfl rfl) rfl rfl g4 ?_
            | refine rr_read (r_loadA rfl rfl rfl (Rd.at (by assumption) (by assumption)) rfl) rfl rfl g4 ?_
          refine rr_read (r_callF rfl rfl rfl (c22 _)) rfl rfl g4  ?_
          refine rr_pure (r_pick_t rfl rfl g4 rfl) rfl rfl rfl ?_
          refine rr_pure (rp rfl) rfl rfl rfl ?_
          refine rr_split rfl (fun g5 => ?_) (fun g5 => ?_)
          · have g5p := g5; try simp only [s_inj, decide_eq_true_eq, decide_eq_false_iff_not, Bool.not_eq_true', Bool.not_eq_false', bne_iff_ne, ne_eq, bne_eq_false_iff_eq, beq_iff_eq, beq_eq_false_iff_ne, Int.natCast_inj] at g5p
            refine rr_pure (rp rfl) rfl rfl g5 ?_
            first
              | refine rr_read (r_loadL rfl rfl rfl rfl rfl) rfl rfl g5 ?_
              | refine rr_read (r_loadA rfl rfl rfl (Rd.at (by assumption) (by assumption)) rfl) rfl rfl g5 ?_
            refine rr_pure (rp rfl) rfl rfl g5 ?_
            first
              | refine rr_read (r_loadL rfl rfl rfl rfl rfl) rfl rfl g5 ?_
              | refine rr_read (r_loadA rfl rfl rfl (Rd.at (by assumption) (by assumption)) rfl) rfl rfl g5 ?_
            refine rr_pure (r_subn rfl rfl rfl (by simp_all [within]; omega)) rfl rfl g5 ?_
            refine rr_read (r_callF rfl rfl rfl (c22 _)) rfl rfl g5  ?_
            refine rr_pure (r_pick_t rfl rfl g5 rfl) rfl rfl rfl ?_
            refine rr_pure (rp rfl) rfl rfl rfl ?_
            refine rr_nil rfl ?_
            refine then_n ?_
            refine aw_ret ?_
            exact fin_b rfl (by rw [okW_spec]; simp_all)
          · have g5p := g5; try simp only [s_inj, decide_eq_true_eq, decide_eq_false_iff_not, Bool.not_eq_true', Bool.not_eq_false', bne_iff_ne, ne_eq, bne_eq_false_iff_eq, beq_iff_eq, beq_eq_false_iff_ne, Int.natCast_inj] at g5p
            refine rr_skip rfl rfl g5 ?_
            refine rr_skip rfl rfl g5 ?_
            refine rr_skip rfl rfl g5 ?_
            refine rr_skip rfl rfl g5 ?_
            refine rr_skip rfl rfl g5 ?_
            refine rr_skip rfl rfl g5 ?_
            refine rr_pure (r_pick_f rfl rfl g5 rfl) rfl rfl rfl ?_
            refine rr_pure (rp rfl) rfl rfl rfl ?_
            refine rr_nil rfl ?_
            refine then_n ?_
            refine aw_ret ?_
            exact fin_b rfl (by rw [okW_spec]; simp_all)
        · have g4p := g4; try simp only [s_inj, decide_eq_true_eq, decide_eq_false_iff_not, Bool.not_eq_true', Bool.not_eq_false', bne_iff_ne, ne_eq, bne_eq_false_iff_eq, beq_iff_eq, beq_eq_false_iff_ne, Int.natCast_inj] at g4p
          refine rr_skip rfl rfl g4 ?_
          refine rr_skip rfl rfl g4 ?_
          refine rr_skip rfl rfl g4 ?_
          refine rr_pure (r_pick_f rfl rfl g4 rfl) rfl rfl rfl ?_
          refine rr_pure (rp rfl) rfl rfl rfl ?_
          refine rr_skip rfl rfl rfl ?_
          refine rr_skip rfl rfl rfl ?_
          refine rr_skip rfl rfl rfl ?_
          refine rr_skip rfl rfl rfl ?_
          refine rr_skip rfl rfl rfl ?_
          refine rr_skip rfl rfl rfl ?_
          refine rr_pure (r_pick_f rfl rfl rfl rfl) rfl rfl rfl ?_
          refine rr_pure (rp rfl) rfl rfl rfl ?_
          refine rr_nil rfl ?_
          refine then_n ?_
          refine aw_ret ?_
          exact fin_b rfl (by rw [okW_spec]; simp_all)
      · have g3p := g3; try simp only [s_inj, decide_eq_true_eq, decide_eq_false_iff_not, Bool.not_eq_true', Bool.not_eq_false', bne_iff_ne, ne_eq, bne_eq_false_iff_eq, beq_iff_eq, beq_eq_false_iff_ne, Int.natCast_inj] at g3p
        refine rr_skip rfl rfl g3 ?_
        refine rr_skip rfl rfl g3 ?_
        refine rr_skip rfl rfl g3 ?_
        refine rr_pure (r_pick_f rfl rfl g3 rfl) rfl rfl rfl ?_
        refine rr_pure (rp rfl) rfl rfl rfl ?_
        refine rr_skip rfl rfl rfl ?_
        refine rr_skip rfl rfl rfl ?_
        refine rr_skip rfl rfl rfl ?_
        refine rr_pure (r_pick_f rfl rfl rfl rfl) rfl rfl rfl ?_
        refine rr_pure (rp rfl) rfl rfl rfl ?_
        refine rr_skip rfl rfl rfl ?_
        refine rr_skip rfl rfl rfl ?_
        refine rr_skip rfl rfl rfl ?_
        refine rr_skip rfl rfl rfl ?_
        refine rr_skip rfl rfl rfl ?_
        refine rr_skip rfl rfl rfl ?_
        refine rr_pure (r_pick_f rfl rfl rfl rfl) rfl rfl rfl ?_
        refine rr_pure (rp rfl) rfl rfl rfl ?_
        refine rr_nil rfl ?_
        refine then_n ?_
        refine aw_ret ?_
        exact fin_b rfl (by rw [okW_spec]; simp_all)
    · have g2p := g2; try simp only [s_inj, decide_eq_true_eq, decide_eq_false_iff_not, Bool.not_eq_true', Bool.not_eq_false', bne_iff_ne, ne_eq, bne_eq_false_iff_eq, beq_iff_eq, beq_eq_false_iff_ne, Int.natCast_inj] at g2p
      refine rr_skip rfl rfl g2 ?_
      refine rr_skip rfl rfl g2 ?_
      refine rr_skip rfl rfl g2 ?_
      refine rr_pure (r_pick_f rfl rfl g2 rfl) rfl rfl rfl ?_
      refine rr_pure (rp rfl) rfl rfl rfl ?_
      refine rr_skip rfl rfl rfl ?_
      refine rr_skip rfl rfl rfl ?_
      refine rr_skip rfl rfl rfl ?_
      refine rr_pure (r_pick_f rfl rfl rfl rfl) rfl rfl rfl ?_
      refine rr_pure (rp rfl) rfl rfl rfl ?_
      refine rr_skip rfl rfl rfl ?_
      refine rr_skip rfl rfl rfl ?_
      refine rr_skip rfl rfl rfl ?_
      refine rr_pure (r_pick_f rfl rfl rfl rfl) rfl rfl rfl ?_
      refine rr_pure (rp rfl) rfl rfl rfl ?_
      refine rr_skip rfl rfl rfl ?_
      refine rr_skip rfl rfl rfl ?_
      refine rr_skip rfl rfl rfl ?_
      refine rr_skip rfl rfl rfl ?_
      refine rr_skip rfl rfl rfl ?_
      refine rr_skip rfl rfl rfl ?_
      refine rr_pure (r_pick_f rfl rfl rfl rfl) rfl rfl rfl ?_
      refine rr_pure (rp rfl) rfl rfl rfl ?_
      refine rr_nil rfl ?_
      refine then_n ?_
      refine aw_ret ?_
      exact fin_b rfl (by rw [okW_spec]; simp_all)
  · have g1p := g1; try simp only [s_inj, decide_eq_true_eq, decide_eq_false_iff_not, Bool.not_eq_true', Bool.not_eq_false', bne_iff_ne, ne_eq, bne_eq_false_iff_eq, beq_iff_eq, beq_eq_false_iff_ne, Int.natCast_inj] at g1p
    refine rr_skip rfl rfl g1 ?_
    refine rr_skip rfl rfl g1 ?_
    refine rr_skip rfl rfl g1 ?_
    refine rr_pure (r_pick_f rfl rfl g1 rfl) rfl rfl rfl ?_
    refine rr_pure (rp rfl) rfl rfl rfl ?_
    refine rr_skip rfl rfl rfl ?_
    refine rr_skip rfl rfl rfl ?_
    refine rr_skip rfl rfl rfl ?_
    refine rr_pure (r_pick_f rfl rfl rfl rfl) rfl rfl rfl ?_
    refine rr_pure (rp rfl) rfl rfl rfl ?_
    refine rr_skip rfl rfl rfl ?_
    refine rr_skip rfl rfl rfl ?_
    refine rr_skip rfl rfl rfl ?_
    refine rr_pure (r_pick_f rfl rfl rfl rfl) rfl rfl rfl ?_
    refine rr_pure (rp rfl) rfl rfl rfl ?_
    refine rr_skip rfl rfl rfl ?_
    refine rr_skip rfl rfl rfl ?_
    refine rr_skip rfl rfl rfl ?_
    refine rr_pure (r_pick_f rfl rfl rfl rfl) rfl rfl rfl ?_
    refine rr_pure (rp rfl) rfl rfl rfl ?_
    refine rr_skip rfl rfl rfl ?_
    refine rr_skip rfl rfl rfl ?_
    refine rr_skip rfl rfl rfl ?_
    refine rr_skip rfl rfl rfl ?_
    refine rr_skip rfl rfl rfl ?_
    refine rr_skip rfl rfl rfl ?_
    refine rr_pure (r_pick_f rfl rfl rfl rfl) rfl rfl rfl ?_
    refine rr_pure (rp rfl) rfl rfl rfl ?_
    refine rr_nil rfl ?_
    refine then_n ?_
    refine aw_ret ?_
    exact fin_b rfl (by rw [okW_spec]; simp_all)
theorem c49 {K : List (Nat × Go.Obj)} [hK : Nonempty (KOk K)] (H : Heap) {a b : Wn} : ACalls (cx K) 49 [aW a, aW b] H (Vb (meet a b)) H := by
  refine acalls0 Tryd.func49 rfl rfl (fun S hS hw => ?_)
  refine aw_seq ?_
  refine aw_region ?_
  refine rr_memL (r_boxL rfl rfl) rfl rfl rfl ?_
  refine rr_memL (r_boxL rfl rfl) rfl rfl rfl ?_
  refine rr_pure (rp rfl) rfl rfl rfl ?_
  refine rr_nil rfl ?_
  refine then_n ?_
  refine aw_seq ?_
  refine aw_region ?_
  refine rr_pure (rp rfl) rfl rfl rfl ?_
  first
    | refine rr_read (r_loadL rfl rfl rfl rfl rfl) rfl rfl rfl ?_
    | refine rr_read (r_loadA rfl rfl rfl (Rd.at (by assumption) (by assumption)) rfl) rfl rfl rfl ?_
  refine rr_pure (rp rfl) rfl rfl rfl ?_
  first
    | refine rr_read (r_loadL rfl rfl rfl rfl rfl) rfl rfl rfl ?_
    | refine rr_read (r_loadA rfl rfl rfl (Rd.at (by assumption) (by assumption)) rfl) rfl rfl rfl ?_
  refine rr_pure (rp rfl) rfl rfl rfl ?_
  refine rr_pure (rp rfl) rfl rfl rfl ?_
  refine rr_split rfl (fun g1 => ?_) (fun g1 => ?_)
  · have g1p := g1; try simp only [s_inj, decide_eq_true_eq, decide_eq_false_iff_not, Bool.not_eq_true', Bool.not_eq_false', bne_iff_ne, ne_eq, bne_eq_false_iff_eq, beq_iff_eq, beq_eq_false_iff_ne, Int.natCast_inj] at g1p
    refine rr_pure (rp rfl) rfl rfl g1 ?_
    first
      | refine rr_read (r_loadL rfl rfl rfl rfl rfl) rfl rfl g1 ?_
      | refine rr_read (r_loadA rfl rfl rfl (Rd.at (by assumption) (by assumption)) rfl) rfl rfl g1 ?_
    refine rr_pure (rp rfl) rfl rfl g1 ?_
    first
      | refine rr_read (r_loadL rfl rfl rfl rfl rfl) rfl rfl g1 ?_
      | refine rr_read (r_loadA rfl rfl rfl (Rd.at (by assumption) (by assumption)) rfl) rfl rfl g1 ?_
    refine rr_pure (rp rfl) rfl rfl g1 ?_
    refine rr_pure (r_pick_t rfl rfl g1 rfl) rfl rfl rfl ?_
    refine rr_pure (rp rfl) rfl rfl rfl ?_
    refine rr_split rfl (fun g2 => ?_) (fun g2 => ?_)
    · have g2p := g2; try simp only [s_inj, decide_eq_true_eq, decide_eq_false_iff_not, Bool.not_eq_true', Bool.not_eq_false', bne_iff_ne, ne_eq, bne_eq_false_iff_eq, beq_iff_eq, beq_eq_false_iff_ne, Int.natCast_inj] at g2p
      refine rr_pure (rp rfl) rfl rfl g2 ?_
      first
        | refine rr_read (r_loadL rfl rfl rfl rfl rfl) rfl rfl g2 ?_
        | refine rr_read (r_loadA rfl rfl rfl (Rd.at (by assumption) (by assumption)) rfl) rfl rfl g2 ?_
      refine rr_pure (rp rfl) rfl rfl g2 ?_
      first
        | refine rr_read (r_loadL rfl rfl rfl rfl rfl) rfl rfl g2 ?_
        | refine rr_read (r_loadA rfl rfl rfl (Rd.at (by assumption) (by assumption)) rfl) rfl rfl g2 ?_
      refine rr_pure (rp rfl) rfl rfl g2 ?_
      refine rr_pure (r_pick_t rfl rfl g2 rfl) rfl rfl rfl ?_
      refine rr_pure (rp rfl) rfl rfl rfl ?_
      refine rr_split rfl (fun g3 => ?_) (fun g3 => ?_)
      · have g3p := g3; try simp only [s_inj, decide_eq_true_eq, decide_eq_false_iff_not, Bool.not_eq_true', Bool.not_eq_false', bne_iff_ne, ne_eq, bne_eq_false_iff_eq, beq_iff_eq, beq_eq_false_iff_ne, Int.natCast_inj] at g3p
        refine rr_pure (rp rfl) rfl rfl g3 ?_
        first
          | refine rr_read (r_loadL rfl rfl rfl rfl rfl) rfl rfl g3 ?_
          | refine rr_read (r_loadA rfl rfl rfl (Rd.at (by assumption) (by assumption)) rfl) rfl rfl g3 ?_
        refine rr_pure (rp rfl) rfl rfl g3 ?_
        first
          | refine rr_read (r_loadL rfl rfl rfl rfl rfl) rfl rfl g3 ?_
          | refine rr_read (r_loadA rfl rfl rfl (Rd.at (by assumption) (by assumption)) rfl) rfl rfl g3 ?_
        refine rr_pure (rp rfl) rfl rfl g3 ?_
        refine rr_pure (r_pick_t rfl rfl g3 rfl) rfl rfl rfl ?_
        refine rr_pure (rp rfl) rfl rfl rfl ?_
        refine rr_nil rfl ?_
        refine then_n ?_
        refine aw_ret ?_
        exact fin_b rfl (by simp_all [meet] <;> omega)
      · have g3p := g3; try simp only [s_inj, decide_eq_true_eq, decide_eq_false_iff_not, Bool.not_eq_true', Bool.not_eq_false', bne_iff_ne, ne_eq, bne_eq_false_iff_eq, beq_iff_eq, beq_eq_false_iff_ne, Int.natCast_inj] at g3p
        refine rr_skip rfl rfl g3 ?_
        refine rr_skip rfl rfl g3 ?_
        refine rr_skip rfl rfl g3 ?_
        refine rr_skip rfl rfl g3 ?_
        refine rr_skip rfl rfl g3 ?_
        refine rr_pure (r_pick_f rfl rfl g3 rfl) rfl rfl rfl ?_
        refine rr_pure (rp rfl) rfl rfl rfl ?_
        refine rr_nil rfl ?_
        refine then_n ?_
        refine aw_ret ?_
        exact fin_b rfl (by simp_all [meet] <;> omega)
    · have g2p := g2; try simp only [s_inj, decide_eq_true_eq, decide_eq_false_iff_not, Bool.not_eq_true', Bool.not_eq_false', bne_iff_ne, ne_eq, bne_eq_false_iff_eq, beq_iff_eq, beq_eq_false_iff_ne, Int.natCast_inj] at g2p
      refine rr_skip rfl rfl g2 ?_
      refine rr_skip rfl rfl g2 ?_
      refine rr_skip rfl rfl g2 ?_
      refine rr_skip rfl rfl g2 ?_
      refine rr_skip rfl rfl g2 ?_
      refine rr_pure (r_pick_f rfl rfl g2 rfl) rfl rfl rfl ?_
      refine rr_pure (rp rfl) rfl rfl rfl ?_
      refine rr_skip rfl rfl rfl ?_
      refine rr_skip rfl rfl rfl ?_
      refine rr_skip rfl rfl rfl ?_
      refine rr_skip rfl rfl rfl ?_
      refine rr_skip rfl rfl rfl ?_
      refine rr_pure (r_pick_f rfl rfl rfl rfl) rfl rfl rfl ?_
      refine rr_pure (rp rfl) rfl rfl rfl ?_
      refine rr_nil rfl ?_
      refine then_n ?_
      refine aw_ret ?_
      exact fin_b rfl (by simp_all [meet] <;> omega)
  · have g1p := g1; try simp only [s_inj, decide_eq_true_eq, decide_eq_false_iff_not, Bool.not_eq_true', Bool.not_eq_false', bne_iff_ne, ne_eq, bne_eq_false_iff_eq, beq_iff_eq, beq_eq_false_iff_ne, Int.natCast_inj] at g1p
    refine rr_skip rfl rfl g1 ?_
    refine rr_skip rfl rfl g1 ?_
    refine rr_skip rfl rfl g1 ?_
    refine rr_skip rfl rfl g1 ?_
    refine rr_skip rfl rfl g1 ?_
    refine rr_pure (r_pick_f rfl rfl g1 rfl) rfl rfl rfl ?_
    refine rr_pure (rp rfl) rfl rfl rfl ?_
    refine rr_skip rfl rfl rfl ?_
    refine rr_skip rfl rfl rfl ?_
    refine rr_skip rfl rfl rfl ?_
    refine rr_skip rfl rfl rfl ?_
    refine rr_skip rfl rfl rfl ?_
    refine rr_pure (r_pick_f rfl rfl rfl rfl) rfl rfl rfl ?_
    refine rr_pure (rp rfl) rfl rfl rfl ?_
    refine rr_skip rfl rfl rfl ?_
    refine rr_skip rfl rfl rfl ?_
    refine rr_skip rfl rfl rfl ?_
    refine rr_skip rfl rfl rfl ?_
    refine rr_skip rfl rfl rfl ?_
    refine rr_pure (r_pick_f rfl rfl rfl rfl) rfl rfl rfl ?_
    refine rr_pure (rp rfl) rfl rfl rfl ?_
    refine rr_nil rfl ?_
    refine then_n ?_
    refine aw_ret ?_
    exact fin_b rfl (by simp_all [meet] <;> omega)
theorem c63 {K : List (Nat × Go.Obj)} [hK : Nonempty (KOk K)] (H : Heap) {a b : Wn} : ACalls (cx K) 63 [aW a, aW b] H (Vb (meet a b)) H := by
  refine acalls0 Tryd.func63 rfl rfl (fun S hS hw => ?_)
  refine aw_seq ?_
  refine aw_region ?_
  refine rr_memL (r_boxL rfl rfl) rfl rfl rfl ?_
  refine rr_memL (r_boxL rfl rfl) rfl rfl rfl ?_
  refine rr_pure (rp rfl) rfl rfl rfl ?_
  refine rr_nil rfl ?_
  refine then_n ?_
  refine aw_seq ?_
  refine aw_region ?_
  refine rr_pure (rp rfl) rfl rfl rfl ?_
  first
    | refine rr_read (r_loadL rfl rfl rfl rfl rfl) rfl rfl rfl ?_
    | refine rr_read (r_loadA rfl rfl rfl (Rd.at (by assumption) (by assumption)) rfl) rfl rfl rfl ?_
  refine rr_pure (rp rfl) rfl rfl rfl ?_
  first
    | refine rr_read (r_loadL rfl rfl rfl rfl rfl) rfl rfl rfl ?_
    | refine rr_read (r_loadA rfl rfl rfl (Rd.at (by assumption) (by assumption)) rfl) rfl rfl rfl ?_
  refine rr_pure (rp rfl) rfl rfl rfl ?_
  refine rr_pure (rp rfl) rfl rfl rfl ?_
  refine rr_split rfl (fun g1 => ?_) (fun g1 => ?_)
  · have g1p := g1; try simp only [s_inj, decide_eq_true_eq, decide_eq_false_iff_not, Bool.not_eq_true', Bool.not_eq_false', bne_iff_ne, ne_eq, bne_eq_false_iff_eq, beq_iff_eq, beq_eq_false_iff_ne, Int.natCast_inj] at g1p
    refine rr_pure (rp rfl) rfl rfl g1 ?_
    first
      | refine rr_read (r_loadL rfl rfl rfl rfl rfl) rfl rfl g1 ?_
      | refine rr_read (r_loadA rfl rfl rfl (Rd.at (by assumption) (by assumption)) rfl) rfl rfl g1 ?_
    refine rr_pure (rp rfl) rfl rfl g1 ?_
    first
      | refine rr_read (r_loadL rfl rfl rfl rfl rfl) rfl rfl g1 ?_
      | refine rr_read (r_loadA rfl rfl rfl (Rd.at (by assumption) (by assumption)) rfl) rfl rfl g1 ?_
    refine rr_pure (rp rfl) rfl rfl g1 ?_
    refine rr_pure (r_pick_t rfl rfl g1 rfl) rfl rfl rfl ?_
    refine rr_pure (rp rfl) rfl rfl rfl ?_
    refine rr_split rfl (fun g2 => ?_) (fun g2 => ?_)
    · have g2p := g2; try simp only [s_inj, decide_eq_true_eq, decide_eq_false_iff_not, Bool.not_eq_true', Bool.not_eq_false', bne_iff_ne, ne_eq, bne_eq_false_iff_eq, beq_iff_eq, beq_eq_false_iff_ne, Int.natCast_inj] at g2p
      refine rr_pure (rp rfl) rfl rfl g2 ?_
      first
        | refine rr_read (r_loadL rfl rfl rfl rfl rfl) rfl rfl g2 ?_
        | refine rr_read (r_loadA rfl rfl rfl (Rd.at (by assumption) (by assumption)) rfl) rfl rfl g2 ?_
      refine rr_pure (rp rfl) rfl rfl g2 ?_
      first
        | refine rr_read (r_loadL rfl rfl rfl rfl rfl) rfl rfl g2 ?_
        | refine rr_read (r_loadA rfl rfl rfl (Rd.at (by assumption) (by assumption)) rfl) rfl rfl g2 ?_
      refine rr_pure (rp rfl) rfl rfl g2 ?_
      refine rr_pure (r_pick_t rfl rfl g2 rfl) rfl rfl rfl ?_
      refine rr_pure (rp rfl) rfl rfl rfl ?_
      refine rr_split rfl (fun g3 => ?_) (fun g3 => ?_)
      · have g3p := g3; try simp only [s_inj, decide_eq_true_eq, decide_eq_false_iff_not, Bool.not_eq_true', Bool.not_eq_false', bne_iff_ne, ne_eq, bne_eq_false_iff_eq, beq_iff_eq, beq_eq_false_iff_ne, Int.natCast_inj] at g3p
        refine rr_pure (rp rfl) rfl rfl g3 ?_
        first
          | refine rr_read (r_loadL rfl rfl rfl rfl rfl) rfl rfl g3 ?_
          | refine rr_read (r_loadA rfl rfl rfl (Rd.at (by assumption) (by assumption)) rfl) rfl rfl g3 ?_
        refine rr_pure (rp rfl) rfl rfl g3 ?_
        first
          | refine rr_read (r_loadL rfl rfl rfl rfl rfl) rfl rfl g3 ?_
          | refine rr_read (r_loadA rfl rfl rfl (Rd.at (by assumption) (by assumption)) rfl) rfl rfl g3 ?_
        refine rr_pure (rp rfl) rfl rfl g3 ?_
        refine rr_pure (r_pick_t rfl rfl g3 rfl) rfl rfl rfl ?_
        refine rr_pure (rp rfl) rfl rfl rfl ?_
        refine rr_nil rfl ?_
        refine then_n ?_
        refine aw_ret ?_
        exact fin_b rfl (by simp_all [meet] <;> omega)
      · have g3p := g3; try simp only [s_inj, decide_eq_true_eq, decide_eq_false_iff_not, Bool.not_eq_true', Bool.not_eq_false', bne_iff_ne, ne_eq, bne_eq_false_iff_eq, beq_iff_eq, beq_eq_false_iff_ne, Int.natCast_inj] at g3p
        refine rr_skip rfl rfl g3 ?_
        refine rr_skip rfl rfl g3 ?_
        refine rr_skip rfl rfl g3 ?_
        refine rr_skip rfl rfl g3 ?_
        refine rr_skip rfl rfl g3 ?_
        refine rr_pure (r_pick_f rfl rfl g3 rfl) rfl rfl rfl ?_
        refine rr_pure (rp rfl) rfl rfl rfl ?_
        refine rr_nil rfl ?_
        refine then_n ?_
        refine aw_ret ?_
        exact fin_b rfl (by simp_all [meet] <;> omega)
    · have g2p := g2; try simp only [s_inj, decide_eq_true_eq, decide_eq_false_iff_not, Bool.not_eq_true', Bool.not_eq_false', bne_iff_ne, ne_eq, bne_eq_false_iff_eq, beq_iff_eq, beq_eq_false_iff_ne, Int.natCast_inj] at g2p
      refine rr_skip rfl rfl g2 ?_
      refine rr_skip rfl rfl g2 ?_
      refine rr_skip rfl rfl g2 ?_
      refine rr_skip rfl rfl g2 ?_
      refine rr_skip rfl rfl g2 ?_
      refine rr_pure (r_pick_f rfl rfl g2 rfl) rfl rfl rfl ?_
      refine rr_pure (rp rfl) rfl rfl rfl ?_
      refine rr_skip rfl rfl rfl ?_
      refine rr_skip rfl rfl rfl ?_
      refine rr_skip rfl rfl rfl ?_
      refine rr_skip rfl rfl rfl ?_
      refine rr_skip rfl rfl rfl ?_
      refine rr_pure (r_pick_f rfl rfl rfl rfl) rfl rfl rfl ?_
      refine rr_pure (rp rfl) rfl rfl rfl ?_
      refine rr_nil rfl ?_
      refine then_n ?_
      refine aw_ret ?_
      exact fin_b rfl (by simp_all [meet] <;> omega)
  · have g1p := g1; try simp only [s_inj, decide_eq_true_eq, decide_eq_false_iff_not, Bool.not_eq_true', Bool.not_eq_false', bne_iff_ne, ne_eq, bne_eq_false_iff_eq, beq_iff_eq, beq_eq_false_iff_ne, Int.natCast_inj] at g1p
    refine rr_skip rfl rfl g1 ?_
    refine rr_skip rfl rfl g1 ?_
    refine rr_skip rfl rfl g1 ?_
    refine rr_skip rfl rfl g1 ?_
    refine rr_skip rfl rfl g1 ?_
    refine rr_pure (r_pick_f rfl rfl g1 rfl) rfl rfl rfl ?_
    refine rr_pure (rp rfl) rfl rfl rfl ?_
    refine rr_skip rfl rfl rfl ?_
    refine rr_skip rfl rfl rfl ?_
    refine rr_skip rfl rfl rfl ?_
    refine rr_skip rfl rfl rfl ?_
    refine rr_skip rfl rfl rfl ?_
    refine rr_pure (r_pick_f rfl rfl rfl rfl) rfl rfl rfl ?_
    refine rr_pure (rp rfl) rfl rfl rfl ?_
    refine rr_skip rfl rfl rfl ?_
    refine rr_skip rfl rfl rfl ?_
    refine rr_skip rfl rfl rfl ?_
    refine rr_skip rfl rfl rfl ?_
    refine rr_skip rfl rfl rfl ?_
    refine rr_pure (r_pick_f rfl rfl rfl rfl) rfl rfl rfl ?_
    refine rr_pure (rp rfl) rfl rfl rfl ?_
    refine rr_nil rfl ?_
    refine then_n ?_
    refine aw_ret ?_
    exact fin_b rfl (by simp_all [meet] <;> omega)
theorem c65 {K : List (Nat × Go.Obj)} [hK : Nonempty (KOk K)] (H : Heap) {v : AC} {xs : List Wn} {f : Nat} {ps : List (Bid × Nat)} {p : Wn → Bool} (hf : (cx K).fn f = true) (hp : ∀ x, ACalls (cx K) f ([aW x] ++ capt ps) (H ++ []) (Vb (p x)) (H ++ [])) (hr : Rd (cx K) H 6 eW v xs) (hn : xs.length ≤ 2 ^ 44) : ACalls (cx K) 65 [.c v, .c (.fn f ps)] H (Vi .i64 (idxP p xs)) H := by
  refine acalls0 Tryd.func65 rfl rfl (fun S hS hw => ?_)
  refine aw_seq ?_
  refine aw_region ?_
  refine rr_pure (rp rfl) rfl rfl rfl ?_
  refine rr_nil rfl ?_
  refine then_n ?_
  refine aw_seq ?_
  refine aw_seq ?_
  refine aw_region ?_
  refine rr_pure (rp rfl) rfl rfl rfl ?_
  first
    | refine rr_pure (rp rfl) rfl rfl rfl ?_
    | refine rr_pure (r_lenR rfl rfl rfl ⟨_, _, hr⟩) rfl rfl rfl ?_
  refine rr_pure (rp rfl) rfl rfl rfl ?_
  refine rr_nil rfl ?_
  refine then_n ?_
  refine aw_block ?_
  refine aw_loop (σ := Nat) (fun i => [(0, sC v), (1, sC (.fn f ps)), (7, sI xs.length), (8, sI i)]) (fun _ => _) (fun i => i ≤ xs.length ∧ (xs.take i).any p = false) (fun i => xs.length - i) (0) (by simp) (by repeat (first | exact Sub.nil _ | refine Sub.cons rfl ?_)) rfl ?_
  intro i hi
  refine aw_seq ?_
  refine aw_region ?_
  refine rr_pure (rp rfl) rfl rfl rfl ?_
  refine rr_nil rfl ?_
  refine then_n ?_
  refine aw_seq ?_
  refine aw_cond rfl (fun b1 => ?_) (fun b1 => ?_)
  · have b1p := b1; try simp only [s_inj, decide_eq_true_eq, decide_eq_false_iff_not, Bool.not_eq_true', Bool.not_eq_false', bne_iff_ne, ne_eq, bne_eq_false_iff_eq, beq_iff_eq, beq_eq_false_iff_ne, Int.natCast_inj] at b1p
    obtain ⟨x, hx⟩ := at_lt xs (i := i) (by omega)
    refine aw_skip ?_
    refine then_n ?_
    refine aw_seq ?_
    refine aw_block ?_
    refine aw_seq ?_
    refine aw_region ?_
    refine rr_pure (rp rfl) rfl rfl rfl ?_
    refine rr_pure (rp rfl) rfl rfl rfl ?_
    refine rr_nil rfl ?_
    refine then_n ?_
    refine aw_seq ?_
    refine aw_region ?_
    refine rr_pure (rp rfl) rfl rfl rfl ?_
    refine rr_pure (rp rfl) rfl rfl rfl ?_
    refine rr_pure (rp rfl) rfl rfl rfl ?_
    refine rr_pure (r_idxR rfl rfl rfl rfl rfl ⟨_, _, hr⟩ (by omega) (by omega)) rfl rfl rfl ?_
    first
      | refine rr_read (r_loadL rfl rfl rfl rfl rfl) rfl rfl rfl ?_
      | refine rr_read (r_loadA rfl rfl rfl (Rd.at hr (by assumption)) rfl) rfl rfl rfl ?_
    refine rr_read (r_callV rfl rfl rfl hf (hp _)) rfl rfl rfl ?_
    refine rr_nil rfl ?_
    refine then_n ?_
    refine aw_cond rfl (fun b2 => ?_) (fun b2 => ?_)
    · have b2p := b2; try simp only [s_inj, decide_eq_true_eq, decide_eq_false_iff_not, Bool.not_eq_true', Bool.not_eq_false', bne_iff_ne, ne_eq, bne_eq_false_iff_eq, beq_iff_eq, beq_eq_false_iff_ne, Int.natCast_inj] at b2p
      refine aw_seq ?_
      refine aw_region ?_
      refine rr_pure (rp rfl) rfl rfl rfl ?_
      refine rr_pure (rp rfl) rfl rfl rfl ?_
      refine rr_nil rfl ?_
      refine then_n ?_
      refine aw_ret ?_
      refine inb_r ?_
      refine then_r ?_
      refine then_r ?_
      refine inb_r ?_
      refine then_r ?_
      exact fin_i rfl (idx_at hi.2 hx b2).symm
    · have b2p := b2; try simp only [s_inj, decide_eq_true_eq, decide_eq_false_iff_not, Bool.not_eq_true', Bool.not_eq_false', bne_iff_ne, ne_eq, bne_eq_false_iff_eq, beq_iff_eq, beq_eq_false_iff_ne, Int.natCast_inj] at b2p
      refine aw_skip ?_
      refine inb_n ?_
      refine then_n ?_
      refine aw_region ?_
      refine rr_pure (r_addn rfl rfl rfl ⟨by omega, by omega⟩) rfl rfl rfl ?_
      refine rr_pure (rp rfl) rfl rfl rfl ?_
      refine rr_nil rfl ?_
      refine then_n ?_
      exact ⟨i + 1, ⟨by omega, by rw [List.take_add_one, hx, List.any_append, hi.2]; simpa using b2⟩, by omega, (by repeat (first | exact Sub.nil _ | refine Sub.cons rfl ?_)), rfl⟩
  · have b1p := b1; try simp only [s_inj, decide_eq_true_eq, decide_eq_false_iff_not, Bool.not_eq_true', Bool.not_eq_false', bne_iff_ne, ne_eq, bne_eq_false_iff_eq, beq_iff_eq, beq_eq_false_iff_ne, Int.natCast_inj] at b1p
    rw [List.take_of_length_le (by omega)] at hi
    refine aw_exit ?_
    refine then_x ?_
    refine then_x ?_
    refine inb_e ?_
    refine then_n ?_
    refine aw_seq ?_
    refine aw_region ?_
    refine rr_pure (rp rfl) rfl rfl rfl ?_
    refine rr_nil rfl ?_
    refine then_n ?_
    refine aw_ret ?_
    exact fin_i rfl (by rw [idxP, hi.2]; rfl)
theorem c47 {K : List (Nat × Go.Obj)} [hK : Nonempty (KOk K)] (H : Heap) {v : AC} {xs : List Wn} {f : Nat} {ps : List (Bid × Nat)} {p : Wn → Bool} (hf : (cx K).fn f = true) (hp : ∀ x, ACalls (cx K) f ([aW x] ++ capt ps) (H ++ []) (Vb (p x)) (H ++ [])) (hr : Rd (cx K) H 6 eW v xs) (hn : xs.length ≤ 2 ^ 44) : ACalls (cx K) 47 [.c v, .c (.fn f ps)] H (Vb (xs.any p)) H := by
  refine acalls0 Tryd.func47 rfl rfl (fun S hS hw => ?_)
  refine aw_seq ?_
  refine aw_region ?_
  refine rr_pure (rp rfl) rfl rfl rfl ?_
  refine rr_nil rfl ?_
  refine then_n ?_
  refine aw_seq ?_
  refine aw_region ?_
  refine rr_pure (rp rfl) rfl rfl rfl ?_
  refine rr_pure (rp rfl) rfl rfl rfl ?_
  refine rr_read (r_callF rfl rfl rfl (c65 _ hf (by simpa using hp) hr.app hn)) rfl rfl rfl  ?_
  refine rr_pure (rp rfl) rfl rfl rfl ?_
  refine rr_pure (rp rfl) rfl rfl rfl ?_
  refine rr_nil rfl ?_
  refine then_n ?_
  refine aw_ret ?_
  exact fin_b rfl (by unfold idxP; split <;> simp_all)
theorem c48 {K : List (Nat × Go.Obj)} [hK : Nonempty (KOk K)] {H : Heap} {bd : Bid} {w o : Wn} (hl : ld (cx K) H bd 0 6 = some (eW w)) : ACalls (cx K) 48 ([aW o] ++ capt [(bd, 0)]) H (Vb (meet w o)) H := by
  refine acalls0 Tryd.func48 rfl rfl (fun S hS hw => ?_)
  refine aw_seq ?_
  refine aw_region ?_
  refine rr_memL (r_boxL rfl rfl) rfl rfl rfl ?_
  refine rr_pure (rp rfl) rfl rfl rfl ?_
  refine rr_nil rfl ?_
  refine then_n ?_
  refine aw_seq ?_
  refine aw_region ?_
  refine rr_read (r_loadA rfl rfl rfl hl rfl) rfl rfl rfl ?_
  first
    | refine rr_read (r_loadL rfl rfl rfl rfl rfl) rfl rfl rfl ?_
    | refine rr_read (r_loadA rfl rfl rfl (Rd.at (by assumption) (by assumption)) rfl) rfl rfl rfl ?_
  refine rr_read (r_callF rfl rfl rfl (c49 _)) rfl rfl rfl  ?_
  refine rr_pure (rp rfl) rfl rfl rfl ?_
  refine rr_nil rfl ?_
  refine then_n ?_
  refine aw_ret ?_
  exact fin_b rfl rfl
theorem c29 {K : List (Nat × Go.Obj)} [hK : Nonempty (KOk K)] (H : Heap) {v : AC} {xs : List Wn} {left : Int} (hr : ∃ H sz, Rd (α := Wn) (cx K) H sz eW v xs) (hn : xs.length ≤ 2 ^ 44) (hl : 0 ≤ left ∧ left ≤ 2 ^ 20) : ACalls (cx K) 29 [.c v, aI left] H (Vi .i64 (szI xs.length left)) H := by
  refine acalls0 Tryd.func29 rfl rfl (fun S hS hw => ?_)
  refine aw_seq ?_
  refine aw_region ?_
  refine rr_pure (rp rfl) rfl rfl rfl ?_
  refine rr_nil rfl ?_
  refine then_n ?_
  refine aw_seq ?_
  refine aw_region ?_
  refine rr_pure (rp rfl) rfl rfl rfl ?_
  refine rr_pure (rp rfl) rfl rfl rfl ?_
  first
    | refine rr_pure (rp rfl) rfl rfl rfl ?_
    | refine rr_pure (r_lenR rfl rfl rfl ⟨_, _, hr.choose_spec.choose_spec⟩) rfl rfl rfl ?_
  refine rr_pure (r_subn rfl rfl rfl ⟨by omega, by omega⟩) rfl rfl rfl ?_
  refine rr_pure (rp rfl) rfl rfl rfl ?_
  refine rr_nil rfl ?_
  refine then_n ?_
  refine aw_seq ?_
  refine aw_seq ?_
  refine aw_region ?_
  refine rr_pure (rp rfl) rfl rfl rfl ?_
  refine rr_pure (rp rfl) rfl rfl rfl ?_
  refine rr_nil rfl ?_
  refine then_n ?_
  refine aw_cond rfl (fun b1 => ?_) (fun b1 => ?_)
  · have b1p := b1; try simp only [s_inj, decide_eq_true_eq, decide_eq_false_iff_not, Bool.not_eq_true', Bool.not_eq_false', bne_iff_ne, ne_eq, bne_eq_false_iff_eq, beq_iff_eq, beq_eq_false_iff_ne, Int.natCast_inj] at b1p
    refine aw_seq ?_
    refine aw_region ?_
    refine rr_pure (rp rfl) rfl rfl rfl ?_
    refine rr_nil rfl ?_
    refine then_n ?_
    refine aw_ret ?_
    refine then_r ?_
    exact fin_i rfl (by simp_all [szI] <;> omega)
  · have b1p := b1; try simp only [s_inj, decide_eq_true_eq, decide_eq_false_iff_not, Bool.not_eq_true', Bool.not_eq_false', bne_iff_ne, ne_eq, bne_eq_false_iff_eq, beq_iff_eq, beq_eq_false_iff_ne, Int.natCast_inj] at b1p
    refine aw_skip ?_
    refine then_n ?_
    refine aw_seq ?_
    refine aw_region ?_
    refine rr_pure (rp rfl) rfl rfl rfl ?_
    refine rr_pure (rp rfl) rfl rfl rfl ?_
    refine rr_nil rfl ?_
    refine then_n ?_
    refine aw_ret ?_
    exact fin_i rfl (by simp_all [szI] <;> omega)
theorem c45 {K : List (Nat × Go.Obj)} [hK : Nonempty (KOk K)] (H : Heap) {w : Wn} : ACalls (cx K) 45 [aW w] H (.v (aW w)) H := by
  refine acalls0 Tryd.func45 rfl rfl (fun S hS hw => ?_)
  refine aw_seq ?_
  refine aw_region ?_
  refine rr_memL (r_boxL rfl rfl) rfl rfl rfl ?_
  refine rr_memL (r_allocL rfl rfl) rfl rfl rfl ?_
  refine rr_nil rfl ?_
  refine then_n ?_
  refine aw_seq ?_
  refine aw_region ?_
  refine rr_memL (r_allocL rfl rfl) rfl rfl rfl ?_
  refine rr_nil rfl ?_
  refine then_n ?_
  refine aw_seq ?_
  refine aw_region ?_
  refine rr_pure (rp rfl) rfl rfl rfl ?_
  first
    | refine rr_read (r_loadL rfl rfl rfl rfl rfl) rfl rfl rfl ?_
    | refine rr_read (r_loadA rfl rfl rfl (Rd.at (by assumption) (by assumption)) rfl) rfl rfl rfl ?_
  refine rr_pure (rp rfl) rfl rfl rfl ?_
  refine rr_eff (r_storeL rfl rfl rfl rfl rfl rfl rfl (Nat.le_of_ble_eq_true rfl)) rfl rfl rfl (by simp) ?_
  refine rr_nil rfl ?_
  refine then_n ?_
  refine aw_seq ?_
  refine aw_region ?_
  refine rr_pure (rp rfl) rfl rfl rfl ?_
  first
    | refine rr_read (r_loadL rfl rfl rfl rfl rfl) rfl rfl rfl ?_
    | refine rr_read (r_loadA rfl rfl rfl (Rd.at (by assumption) (by assumption)) rfl) rfl rfl rfl ?_
  refine rr_pure (rp rfl) rfl rfl rfl ?_
  refine rr_eff (r_storeL rfl rfl rfl rfl rfl rfl rfl (Nat.le_of_ble_eq_true rfl)) rfl rfl rfl (by simp) ?_
  refine rr_nil rfl ?_
  refine then_n ?_
  refine aw_seq ?_
  refine aw_region ?_
  refine rr_pure (rp rfl) rfl rfl rfl ?_
  first
    | refine rr_read (r_loadL rfl rfl rfl rfl rfl) rfl rfl rfl ?_
    | refine rr_read (r_loadA rfl rfl rfl (Rd.at (by assumption) (by assumption)) rfl) rfl rfl rfl ?_
  refine rr_pure (rp rfl) rfl rfl rfl ?_
  refine rr_eff (r_storeL rfl rfl rfl rfl rfl rfl rfl (Nat.le_of_ble_eq_true rfl)) rfl rfl rfl (by simp) ?_
  refine rr_nil rfl ?_
  refine then_n ?_
  refine aw_seq ?_
  refine aw_region ?_
  refine rr_pure (rp rfl) rfl rfl rfl ?_
  first
    | refine rr_read (r_loadL rfl rfl rfl rfl rfl) rfl rfl rfl ?_
    | refine rr_read (r_loadA rfl rfl rfl (Rd.at (by assumption) (by assumption)) rfl) rfl rfl rfl ?_
  refine rr_pure (rp rfl) rfl rfl rfl ?_
  refine rr_eff (r_storeL rfl rfl rfl rfl rfl rfl rfl (Nat.le_of_ble_eq_true rfl)) rfl rfl rfl (by simp) ?_
  refine rr_nil rfl ?_
  refine then_n ?_
  refine aw_seq ?_
  refine aw_region ?_
  refine rr_pure (rp rfl) rfl rfl rfl ?_
  first
    | refine rr_read (r_loadL rfl rfl rfl rfl rfl) rfl rfl rfl ?_
    | refine rr_read (r_loadA rfl rfl rfl (Rd.at (by assumption) (by assumption)) rfl) rfl rfl rfl ?_
  refine rr_pure (rp rfl) rfl rfl rfl ?_
  refine rr_eff (r_storeL rfl rfl rfl rfl rfl rfl rfl (Nat.le_of_ble_eq_true rfl)) rfl rfl rfl (by simp) ?_
  refine rr_nil rfl ?_
  refine then_n ?_
  refine aw_seq ?_
  refine aw_region ?_
  refine rr_pure (rp rfl) rfl rfl rfl ?_
  first
    | refine rr_read (r_loadL rfl rfl rfl rfl rfl) rfl rfl rfl ?_
    | refine rr_read (r_loadA rfl rfl rfl (Rd.at (by assumption) (by assumption)) rfl) rfl rfl rfl ?_
  refine rr_pure (rp rfl) rfl rfl rfl ?_
  refine rr_eff (r_storeL rfl rfl rfl rfl rfl rfl rfl (Nat.le_of_ble_eq_true rfl)) rfl rfl rfl (by simp) ?_
  refine rr_nil rfl ?_
  refine then_n ?_
  refine aw_seq ?_
  refine aw_region ?_
  first
    | refine rr_read (r_loadL rfl rfl rfl rfl rfl) rfl rfl rfl ?_
    | refine rr_read (r_loadA rfl rfl rfl (Rd.at (by assumption) (by assumption)) rfl) rfl rfl rfl ?_
  refine rr_eff (r_storeL rfl rfl rfl rfl rfl rfl rfl (Nat.le_of_ble_eq_true rfl)) rfl rfl rfl (by simp) ?_
  refine rr_nil rfl ?_
  refine then_n ?_
  refine aw_ret ?_
  exact fin_r (resA_cell rfl rfl rfl rfl resA_nil) rfl rfl rfl
theorem c31 {K : List (Nat × Go.Obj)} [hK : Nonempty (KOk K)] {H : Heap} {b : Nat} (hb : H.length = b) {v : AC} {xs : List Wn} (hr : Rd (cx K) H 6 eW v xs) (hn : xs.length ≤ 2 ^ 40) : ACalls (cx K) 31 [.c v] H (.v (.c (.sl (.l b) 0 xs.length xs.length true))) (H ++ [bW xs]) := by
  subst hb
  refine acallsN Tryd.func31 rfl rfl (fun S hS hw => ?_)
  refine aw_seq ?_
  refine aw_region ?_
  refine rr_pure (rp rfl) rfl rfl rfl ?_
  refine rr_nil rfl ?_
  refine then_n ?_
  refine aw_seq ?_
  refine aw_region ?_
  refine rr_pure (rp rfl) rfl rfl rfl ?_
  first
    | refine rr_pure (rp rfl) rfl rfl rfl ?_
    | refine rr_pure (r_lenR rfl rfl rfl ⟨_, _, hr.app (L := [])⟩) rfl rfl rfl ?_
  refine rr_memL (r_makeR (enc := eW) (z := ⟨0, 0, 0, 0, 0, 0⟩) rfl rfl rfl rfl (by dsimp only; omega) (by omega) rfl rfl rfl) rfl rfl rfl ?_
  refine rr_pure (rp rfl) rfl rfl rfl ?_
  refine rr_nil rfl ?_
  refine then_n ?_
  refine aw_seq ?_
  refine aw_seq ?_
  refine aw_region ?_
  refine rr_pure (rp rfl) rfl rfl rfl ?_
  refine rr_nil rfl ?_
  refine then_n ?_
  refine aw_block ?_
  refine aw_loop (σ := Nat) (fun i => [(0, sC v), (3, sC (.sl (.l (H.length + 0)) 0 xs.length xs.length true)), (4, sI i)]) (fun i => H ++ [bW (xs.take i ++ List.replicate (xs.length - i) ⟨0, 0, 0, 0, 0, 0⟩)]) (fun i => i ≤ xs.length) (fun i => xs.length - i) (0) (by simp) (by repeat (first | exact Sub.nil _ | refine Sub.cons rfl ?_)) (by simp) ?_
  intro i hi
  refine aw_seq ?_
  refine aw_seq ?_
  refine aw_region ?_
  refine rr_pure (rp rfl) rfl rfl rfl ?_
  refine rr_pure (rp rfl) rfl rfl rfl ?_
  first
    | refine rr_pure (rp rfl) rfl rfl rfl ?_
    | refine rr_pure (r_lenR rfl rfl rfl ⟨_, _, hr.app (L := [])⟩) rfl rfl rfl ?_
  refine rr_pure (rp rfl) rfl rfl rfl ?_
  refine rr_nil rfl ?_
  refine then_n ?_
  refine aw_cond rfl (fun b1 => ?_) (fun b1 => ?_)
  · have b1p := b1; try simp only [s_inj, decide_eq_true_eq, decide_eq_false_iff_not, Bool.not_eq_true', Bool.not_eq_false', bne_iff_ne, ne_eq, bne_eq_false_iff_eq, beq_iff_eq, beq_eq_false_iff_ne, Int.natCast_inj] at b1p
    obtain ⟨x, hx⟩ := at_lt xs (i := i) (by omega)
    refine aw_skip ?_
    refine then_n ?_
    refine aw_seq ?_
    refine aw_block ?_
    refine aw_region ?_
    refine rr_pure (rp rfl) rfl rfl rfl ?_
    refine rr_pure (rp rfl) rfl rfl rfl ?_
    refine rr_pure (rp rfl) rfl rfl rfl ?_
    refine rr_pure (rp rfl) rfl rfl rfl ?_
    refine rr_pure (r_idxR rfl rfl rfl rfl rfl ⟨_, _, hr.app (L := [])⟩ (by omega) (by omega)) rfl rfl rfl ?_
    first
      | refine rr_read (r_loadL rfl rfl rfl rfl rfl) rfl rfl rfl ?_
      | refine rr_read (r_loadA rfl rfl rfl (Rd.at (hr) (by assumption)) rfl) rfl rfl rfl ?_
    refine rr_read (r_callF rfl rfl rfl (c45 _)) rfl rfl rfl  ?_
    refine rr_pure (r_idx rfl rfl rfl rfl rfl (by omega) (by omega)) rfl rfl rfl ?_
    refine rr_eff (r_storeR (z := 6) rfl rfl rfl rfl rfl rfl lW rfl (by simp; omega)) rfl rfl rfl (by simp) ?_
    refine rr_nil rfl ?_
    refine inb_n ?_
    refine then_n ?_
    refine aw_region ?_
    refine rr_pure (rp rfl) rfl rfl rfl ?_
    refine rr_pure (r_addn rfl rfl rfl ⟨by omega, by omega⟩) rfl rfl rfl ?_
    refine rr_pure (rp rfl) rfl rfl rfl ?_
    refine rr_nil rfl ?_
    refine then_n ?_
    exact ⟨i + 1, by omega, by omega, (by repeat (first | exact Sub.nil _ | refine Sub.cons rfl ?_)), (by simp only [← take_set hx]; rfl)⟩
  · have b1p := b1; try simp only [s_inj, decide_eq_true_eq, decide_eq_false_iff_not, Bool.not_eq_true', Bool.not_eq_false', bne_iff_ne, ne_eq, bne_eq_false_iff_eq, beq_iff_eq, beq_eq_false_iff_ne, Int.natCast_inj] at b1p
    rw [List.take_of_length_le (by omega), Nat.sub_eq_zero_of_le (by omega), List.replicate_zero, List.append_nil]
    refine aw_exit ?_
    refine then_x ?_
    refine then_x ?_
    refine inb_e ?_
    refine then_n ?_
    refine aw_seq ?_
    refine aw_region ?_
    refine rr_pure (rp rfl) rfl rfl rfl ?_
    refine rr_pure (rp rfl) rfl rfl rfl ?_
    refine rr_nil rfl ?_
    refine then_n ?_
    refine aw_ret ?_
    exact fin_mv [0] (resA_tmp rfl resA_nil) (mv_one rfl (flat_plain pW xs)) (by simp [resT, AT.ren, AV.ren, AC.ren, renB_base]) (by simp [Lo, AT.ids, AV.ids, AC.ids])
theorem c50 {K : List (Nat × Go.Obj)} [hK : Nonempty (KOk K)] (H : Heap) {a b : Wn} : ACalls (cx K) 50 [aW a, aW b] H (Vb (decide (a = b))) H := by
  refine acalls0 Tryd.func50 rfl rfl (fun S hS hw => ?_)
  refine aw_seq ?_
  refine aw_region ?_
  refine rr_memL (r_boxL rfl rfl) rfl rfl rfl ?_
  refine rr_memL (r_boxL rfl rfl) rfl rfl rfl ?_
  refine rr_pure (rp rfl) rfl rfl rfl ?_
  refine rr_nil rfl ?_
  refine then_n ?_
  refine aw_seq ?_
  refine aw_seq ?_
  refine aw_region ?_
  refine rr_pure (rp rfl) rfl rfl rfl ?_
  first
    | refine rr_read (r_loadL rfl rfl rfl rfl rfl) rfl rfl rfl ?_
    | refine rr_read (r_loadA rfl rfl rfl (Rd.at (by assumption) (by assumption)) rfl) rfl rfl rfl ?_
  refine rr_pure (rp rfl) rfl rfl rfl ?_
  first
    | refine rr_read (r_loadL rfl rfl rfl rfl rfl) rfl rfl rfl ?_
    | refine rr_read (r_loadA rfl rfl rfl (Rd.at (by assumption) (by assumption)) rfl) rfl rfl rfl ?_
  refine rr_pure (rp rfl) rfl rfl rfl ?_
  refine rr_nil rfl ?_
  refine then_n ?_
  refine aw_cond rfl (fun b1 => ?_) (fun b1 => ?_)
  · have b1p := b1; try simp only [s_inj, decide_eq_true_eq, decide_eq_false_iff_not, Bool.not_eq_true', Bool.not_eq_false', bne_iff_ne, ne_eq, bne_eq_false_iff_eq, beq_iff_eq, beq_eq_false_iff_ne, Int.natCast_inj] at b1p
    refine aw_seq ?_
    refine aw_region ?_
    refine rr_pure (rp rfl) rfl rfl rfl ?_
    refine rr_nil rfl ?_
    refine then_n ?_
    refine aw_ret ?_
    refine then_r ?_
    exact fin_b rfl (by cases a; cases b; simp_all)
  · have b1p := b1; try simp only [s_inj, decide_eq_true_eq, decide_eq_false_iff_not, Bool.not_eq_true', Bool.not_eq_false', bne_iff_ne, ne_eq, bne_eq_false_iff_eq, beq_iff_eq, beq_eq_false_iff_ne, Int.natCast_inj] at b1p
    refine aw_skip ?_
    refine then_n ?_
    refine aw_seq ?_
    refine aw_seq ?_
    refine aw_region ?_
    refine rr_pure (rp rfl) rfl rfl rfl ?_
    first
      | refine rr_read (r_loadL rfl rfl rfl rfl rfl) rfl rfl rfl ?_
      | refine rr_read (r_loadA rfl rfl rfl (Rd.at (by assumption) (by assumption)) rfl) rfl rfl rfl ?_
    refine rr_pure (rp rfl) rfl rfl rfl ?_
    first
      | refine rr_read (r_loadL rfl rfl rfl rfl rfl) rfl rfl rfl ?_
      | refine rr_read (r_loadA rfl rfl rfl (Rd.at (by assumption) (by assumption)) rfl) rfl rfl rfl ?_
    refine rr_pure (rp rfl) rfl rfl rfl ?_
    refine rr_nil rfl ?_
    refine then_n ?_
    refine aw_cond rfl (fun b2 => ?_) (fun b2 => ?_)
    · have b2p := b2; try simp only [s_inj, decide_eq_true_eq, decide_eq_false_iff_not, Bool.not_eq_true', Bool.not_eq_false', bne_iff_ne, ne_eq, bne_eq_false_iff_eq, beq_iff_eq, beq_eq_false_iff_ne, Int.natCast_inj] at b2p
      refine aw_seq ?_
      refine aw_region ?_
      refine rr_pure (rp rfl) rfl rfl rfl ?_
      refine rr_nil rfl ?_
      refine then_n ?_
      refine aw_ret ?_
      refine then_r ?_
      exact fin_b rfl (by cases a; cases b; simp_all)
    · have b2p := b2; try simp only [s_inj, decide_eq_true_eq, decide_eq_false_iff_not, Bool.not_eq_true', Bool.not_eq_false', bne_iff_ne, ne_eq, bne_eq_false_iff_eq, beq_iff_eq, beq_eq_false_iff_ne, Int.natCast_inj] at b2p
      refine aw_skip ?_
      refine then_n ?_
      refine aw_seq ?_
      refine aw_seq ?_
      refine aw_region ?_
      refine rr_pure (rp rfl) rfl rfl rfl ?_
      first
        | refine rr_read (r_loadL rfl rfl rfl rfl rfl) rfl rfl rfl ?_
        | refine rr_read (r_loadA rfl rfl rfl (Rd.at (by assumption) (by assumption)) rfl) rfl rfl rfl ?_
      refine rr_pure (rp rfl) rfl rfl rfl ?_
      first
        | refine rr_read (r_loadL rfl rfl rfl rfl rfl) rfl rfl rfl ?_
        | refine rr_read (r_loadA rfl rfl rfl (Rd.at (by assumption) (by assumption)) rfl) rfl rfl rfl ?_
      refine rr_pure (rp rfl) rfl rfl rfl ?_
      refine rr_nil rfl ?_
      refine then_n ?_
      refine aw_cond rfl (fun b3 => ?_) (fun b3 => ?_)
      · have b3p := b3; try simp only [s_inj, decide_eq_true_eq, decide_eq_false_iff_not, Bool.not_eq_true', Bool.not_eq_false', bne_iff_ne, ne_eq, bne_eq_false_iff_eq, beq_iff_eq, beq_eq_false_iff_ne, Int.natCast_inj] at b3p
        refine aw_seq ?_
        refine aw_region ?_
        refine rr_pure (rp rfl) rfl rfl rfl ?_
        refine rr_nil rfl ?_
        refine then_n ?_
        refine aw_ret ?_
        refine then_r ?_
        exact fin_b rfl (by cases a; cases b; simp_all)
      · have b3p := b3; try simp only [s_inj, decide_eq_true_eq, decide_eq_false_iff_not, Bool.not_eq_true', Bool.not_eq_false', bne_iff_ne, ne_eq, bne_eq_false_iff_eq, beq_iff_eq, beq_eq_false_iff_ne, Int.natCast_inj] at b3p
        refine aw_skip ?_
        refine then_n ?_
        refine aw_seq ?_
        refine aw_seq ?_
        refine aw_region ?_
        refine rr_pure (rp rfl) rfl rfl rfl ?_
        first
          | refine rr_read (r_loadL rfl rfl rfl rfl rfl) rfl rfl rfl ?_
          | refine rr_read (r_loadA rfl rfl rfl (Rd.at (by assumption) (by assumption)) rfl) rfl rfl rfl ?_
        refine rr_pure (rp rfl) rfl rfl rfl ?_
        first
          | refine rr_read (r_loadL rfl rfl rfl rfl rfl) rfl rfl rfl ?_
          | refine rr_read (r_loadA rfl rfl rfl (Rd.at (by assumption) (by assumption)) rfl) rfl rfl rfl ?_
        refine rr_pure (rp rfl) rfl rfl rfl ?_
        refine rr_nil rfl ?_
        refine then_n ?_
        refine aw_cond rfl (fun b4 => ?_) (fun b4 => ?_)
        · have b4p := b4; try simp only [s_inj, decide_eq_true_eq, decide_eq_false_iff_not, Bool.not_eq_true', Bool.not_eq_false', bne_iff_ne, ne_eq, bne_eq_false_iff_eq, beq_iff_eq, beq_eq_false_iff_ne, Int.natCast_inj] at b4p
          refine aw_seq ?_
          refine aw_region ?_
          refine rr_pure (rp rfl) rfl rfl rfl ?_
          refine rr_nil rfl ?_
          refine then_n ?_
          refine aw_ret ?_
          refine then_r ?_
          exact fin_b rfl (by cases a; cases b; simp_all)
        · have b4p := b4; try simp only [s_inj, decide_eq_true_eq, decide_eq_false_iff_not, Bool.not_eq_true', Bool.not_eq_false', bne_iff_ne, ne_eq, bne_eq_false_iff_eq, beq_iff_eq, beq_eq_false_iff_ne, Int.natCast_inj] at b4p
          refine aw_skip ?_
          refine then_n ?_
          refine aw_seq ?_
          refine aw_seq ?_
          refine aw_region ?_
          refine rr_pure (rp rfl) rfl rfl rfl ?_
          first
            | refine rr_read (r_loadL rfl rfl rfl rfl rfl) rfl rfl rfl ?_
            | refine rr_read (r_loadA rfl rfl rfl (Rd.at (by assumption) (by assumption)) rfl) rfl rfl rfl ?_
          refine rr_pure (rp rfl) rfl rfl rfl ?_
          first
            | refine rr_read (r_loadL rfl rfl rfl rfl rfl) rfl rfl rfl ?_
            | refine rr_read (r_loadA rfl rfl rfl (Rd.at (by assumption) (by assumption)) rfl) rfl rfl rfl ?_
          refine rr_pure (rp rfl) rfl rfl rfl ?_
          refine rr_nil rfl ?_
          refine then_n ?_
          refine aw_cond rfl (fun b5 => ?_) (fun b5 => ?_)
          · have b5p := b5; try simp only [s_inj, decide_eq_true_eq, decide_eq_false_iff_not, Bool.not_eq_true', Bool.not_eq_false', bne_iff_ne, ne_eq, bne_eq_false_iff_eq, beq_iff_eq, beq_eq_false_iff_ne, Int.natCast_inj] at b5p
            refine aw_seq ?_
            refine aw_region ?_
            refine rr_pure (rp rfl) rfl rfl rfl ?_
            refine rr_nil rfl ?_
            refine then_n ?_
            refine aw_ret ?_
            refine then_r ?_
            exact fin_b rfl (by cases a; cases b; simp_all)
          · have b5p := b5; try simp only [s_inj, decide_eq_true_eq, decide_eq_false_iff_not, Bool.not_eq_true', Bool.not_eq_false', bne_iff_ne, ne_eq, bne_eq_false_iff_eq, beq_iff_eq, beq_eq_false_iff_ne, Int.natCast_inj] at b5p
            refine aw_skip ?_
            refine then_n ?_
            refine aw_seq ?_
            refine aw_seq ?_
            refine aw_region ?_
            refine rr_pure (rp rfl) rfl rfl rfl ?_
            first
              | refine rr_read (r_loadL rfl rfl rfl rfl rfl) rfl rfl rfl ?_
              | refine rr_read (r_loadA rfl rfl rfl (Rd.at (by assumption) (by assumption)) rfl) rfl rfl rfl ?_
            refine rr_pure (rp rfl) rfl rfl rfl ?_
            first
              | refine rr_read (r_loadL rfl rfl rfl rfl rfl) rfl rfl rfl ?_
              | refine rr_read (r_loadA rfl rfl rfl (Rd.at (by assumption) (by assumption)) rfl) rfl rfl rfl ?_
            refine rr_pure (rp rfl) rfl rfl rfl ?_
            refine rr_nil rfl ?_
            refine then_n ?_
            refine aw_cond rfl (fun b6 => ?_) (fun b6 => ?_)
            · have b6p := b6; try simp only [s_inj, decide_eq_true_eq, decide_eq_false_iff_not, Bool.not_eq_true', Bool.not_eq_false', bne_iff_ne, ne_eq, bne_eq_false_iff_eq, beq_iff_eq, beq_eq_false_iff_ne, Int.natCast_inj] at b6p
              refine aw_seq ?_
              refine aw_region ?_
              refine rr_pure (rp rfl) rfl rfl rfl ?_
              refine rr_nil rfl ?_
              refine then_n ?_
              refine aw_ret ?_
              refine then_r ?_
              exact fin_b rfl (by cases a; cases b; simp_all)
            · have b6p := b6; try simp only [s_inj, decide_eq_true_eq, decide_eq_false_iff_not, Bool.not_eq_true', Bool.not_eq_false', bne_iff_ne, ne_eq, bne_eq_false_iff_eq, beq_iff_eq, beq_eq_false_iff_ne, Int.natCast_inj] at b6p
              refine aw_skip ?_
              refine then_n ?_
              refine aw_seq ?_
              refine aw_region ?_
              refine rr_pure (rp rfl) rfl rfl rfl ?_
              refine rr_nil rfl ?_
              refine then_n ?_
              refine aw_ret ?_
              exact fin_b rfl (by cases a; cases b; simp_all)
theorem c33 {K : List (Nat × Go.Obj)} [hK : Nonempty (KOk K)] (H : Heap) {v v' : AC} {xs ys : List Wn} (hr : Rd (cx K) H 6 eW v xs) (hr' : Rd (cx K) H 6 eW v' ys) (hn : xs.length ≤ 2 ^ 44) (hn' : ys.length ≤ 2 ^ 44) : ACalls (cx K) 33 [.c v, .c v'] H (Vb (decide (xs = ys))) H := by
  refine acalls0 Tryd.func33 rfl rfl (fun S hS hw => ?_)
  refine aw_seq ?_
  refine aw_region ?_
  refine rr_pure (rp rfl) rfl rfl rfl ?_
  refine rr_nil rfl ?_
  refine then_n ?_
  refine aw_seq ?_
  refine aw_seq ?_
  refine aw_region ?_
  refine rr_pure (rp rfl) rfl rfl rfl ?_
  first
    | refine rr_pure (rp rfl) rfl rfl rfl ?_
    | refine rr_pure (r_lenR rfl rfl rfl ⟨_, _, by first | exact hr.app (L := []) | exact hr'.app (L := [])⟩) rfl rfl rfl ?_
  refine rr_pure (rp rfl) rfl rfl rfl ?_
  first
    | refine rr_pure (rp rfl) rfl rfl rfl ?_
    | refine rr_pure (r_lenR rfl rfl rfl ⟨_, _, by first | exact hr.app (L := []) | exact hr'.app (L := [])⟩) rfl rfl rfl ?_
  refine rr_pure (rp rfl) rfl rfl rfl ?_
  refine rr_nil rfl ?_
  refine then_n ?_
  refine aw_cond rfl (fun b1 => ?_) (fun b1 => ?_)
  · have b1p := b1; try simp only [s_inj, decide_eq_true_eq, decide_eq_false_iff_not, Bool.not_eq_true', Bool.not_eq_false', bne_iff_ne, ne_eq, bne_eq_false_iff_eq, beq_iff_eq, beq_eq_false_iff_ne, Int.natCast_inj] at b1p
    refine aw_seq ?_
    refine aw_region ?_
    refine rr_pure (rp rfl) rfl rfl rfl ?_
    refine rr_nil rfl ?_
    refine then_n ?_
    refine aw_ret ?_
    refine then_r ?_
    exact fin_b rfl (by rw [eq_comm, decide_eq_false_iff_not]; intro e; rw [e] at b1p; exact b1p rfl)
  · have b1p := b1; try simp only [s_inj, decide_eq_true_eq, decide_eq_false_iff_not, Bool.not_eq_true', Bool.not_eq_false', bne_iff_ne, ne_eq, bne_eq_false_iff_eq, beq_iff_eq, beq_eq_false_iff_ne, Int.natCast_inj] at b1p
    refine aw_skip ?_
    refine then_n ?_
    refine aw_seq ?_
    refine aw_seq ?_
    refine aw_region ?_
    refine rr_pure (rp rfl) rfl rfl rfl ?_
    refine rr_nil rfl ?_
    refine then_n ?_
    refine aw_block ?_
    refine aw_loop (σ := Nat) (fun i => [(0, sC v), (1, sC v'), (5, sI i)]) (fun _ => _) (fun i => i ≤ xs.length ∧ xs.take i = ys.take i) (fun i => xs.length - i) (0) (by simp) (by repeat (first | exact Sub.nil _ | refine Sub.cons rfl ?_)) rfl ?_
    intro i hi
    refine aw_seq ?_
    refine aw_seq ?_
    refine aw_region ?_
    refine rr_pure (rp rfl) rfl rfl rfl ?_
    refine rr_pure (rp rfl) rfl rfl rfl ?_
    first
      | refine rr_pure (rp rfl) rfl rfl rfl ?_
      | refine rr_pure (r_lenR rfl rfl rfl ⟨_, _, by first | exact hr.app (L := []) | exact hr'.app (L := [])⟩) rfl rfl rfl ?_
    refine rr_pure (rp rfl) rfl rfl rfl ?_
    refine rr_nil rfl ?_
    refine then_n ?_
    refine aw_cond rfl (fun b2 => ?_) (fun b2 => ?_)
    · have b2p := b2; try simp only [s_inj, decide_eq_true_eq, decide_eq_false_iff_not, Bool.not_eq_true', Bool.not_eq_false', bne_iff_ne, ne_eq, bne_eq_false_iff_eq, beq_iff_eq, beq_eq_false_iff_ne, Int.natCast_inj] at b2p
      obtain ⟨x, hx⟩ := at_lt xs (i := i) (by omega); obtain ⟨y, hy⟩ := at_lt ys (i := i) (by omega)
      refine aw_skip ?_
      refine then_n ?_
      refine aw_seq ?_
      refine aw_block ?_
      refine aw_seq ?_
      refine aw_region_draw ?_
      refine rr_pure (rp rfl) rfl rfl rfl ?_
      refine rr_pure (rp rfl) rfl rfl rfl ?_
      refine rr_pure (r_idxR rfl rfl rfl rfl rfl ⟨_, _, by first | exact hr.app (L := []) | exact hr'.app (L := [])⟩ (by omega) (by omega)) rfl rfl rfl ?_
      first
        | refine rr_read (r_loadL rfl rfl rfl rfl rfl) rfl rfl rfl ?_
        | refine rr_read (r_loadA rfl rfl rfl (Rd.at (by first | exact hr | exact hr') (by assumption)) rfl) rfl rfl rfl ?_
      refine rr_pure (rp rfl) rfl rfl rfl ?_
      refine rr_pure (rp rfl) rfl rfl rfl ?_
      refine rr_pure (r_idxR rfl rfl rfl rfl rfl ⟨_, _, by first | exact hr.app (L := []) | exact hr'.app (L := [])⟩ (by omega) (by omega)) rfl rfl rfl ?_
      first
        | refine rr_read (r_loadL rfl rfl rfl rfl rfl) rfl rfl rfl ?_
        | refine rr_read (r_loadA rfl rfl rfl (Rd.at (by first | exact hr | exact hr') (by assumption)) rfl) rfl rfl rfl ?_
      refine rr_read (r_callF rfl rfl rfl (c50 _)) rfl rfl rfl  ?_
      refine rr_pure (rp rfl) rfl rfl rfl ?_
      refine rr_nil (by kernel_rfl) ?_
      refine then_n ?_
      refine aw_cond rfl (fun b3 => ?_) (fun b3 => ?_)
      · have b3p := b3; try simp only [s_inj, decide_eq_true_eq, decide_eq_false_iff_not, Bool.not_eq_true', Bool.not_eq_false', bne_iff_ne, ne_eq, bne_eq_false_iff_eq, beq_iff_eq, beq_eq_false_iff_ne, Int.natCast_inj] at b3p
        refine aw_seq ?_
        refine aw_region ?_
        refine rr_pure (rp rfl) rfl rfl rfl ?_
        refine rr_nil rfl ?_
        refine then_n ?_
        refine aw_ret ?_
        refine inb_r ?_
        refine then_r ?_
        refine then_r ?_
        refine inb_r ?_
        refine then_r ?_
        exact fin_b rfl (by rw [eq_comm, decide_eq_false_iff_not]; intro e; rw [e, hy] at hx; cases hx; simp at b3p)
      · have b3p := b3; try simp only [s_inj, decide_eq_true_eq, decide_eq_false_iff_not, Bool.not_eq_true', Bool.not_eq_false', bne_iff_ne, ne_eq, bne_eq_false_iff_eq, beq_iff_eq, beq_eq_false_iff_ne, Int.natCast_inj] at b3p
        refine aw_skip ?_
        refine inb_n ?_
        refine then_n ?_
        refine aw_region ?_
        refine rr_pure (rp rfl) rfl rfl rfl ?_
        refine rr_pure (r_addn rfl rfl rfl ⟨by omega, by omega⟩) rfl rfl rfl ?_
        refine rr_pure (rp rfl) rfl rfl rfl ?_
        refine rr_nil rfl ?_
        refine then_n ?_
        exact ⟨i + 1, ⟨by omega, by rw [List.take_add_one, List.take_add_one, hi.2, hx, hy, (by simpa using b3p : x = y)]⟩, by omega, (by repeat (first | exact Sub.nil _ | refine Sub.cons rfl ?_)), rfl⟩
    · have b2p := b2; try simp only [s_inj, decide_eq_true_eq, decide_eq_false_iff_not, Bool.not_eq_true', Bool.not_eq_false', bne_iff_ne, ne_eq, bne_eq_false_iff_eq, beq_iff_eq, beq_eq_false_iff_ne, Int.natCast_inj] at b2p
      refine aw_exit ?_
      refine then_x ?_
      refine then_x ?_
      refine inb_e ?_
      refine then_n ?_
      refine aw_seq ?_
      refine aw_region ?_
      refine rr_pure (rp rfl) rfl rfl rfl ?_
      refine rr_nil rfl ?_
      refine then_n ?_
      refine aw_ret ?_
      exact fin_b rfl (by rw [eq_comm, decide_eq_true_eq, ← List.take_of_length_le (l := xs) (i := i) (by omega), hi.2, List.take_of_length_le (by omega)])
end Go.Proofs.YtfdopoijhjbamaaDoor
