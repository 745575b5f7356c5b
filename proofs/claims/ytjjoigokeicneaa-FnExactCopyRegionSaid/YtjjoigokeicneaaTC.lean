import Derived.Test.YtjjoigokeicneaaTB
namespace Go.Proofs.Ytjjoigokeicneaa
open Go.Aw
set_option maxRecDepth 100000
set_option linter.unusedSimpArgs false
set_option linter.unusedVariables false
/-- Where the first stands for which p holds. -/
def idxI (p : Int → Bool) (xs : List Int) : Int := if xs.any p then (xs.findIdx p : Int) else -1
theorem idx_at {p : Int → Bool} {xs : List Int} {i : Nat} {x : Int} (h : (xs.take i).any p = false) (hx : xs[i]? = some x) (hp : p x = true) : idxI p xs = i := by
  have hlt := (List.getElem?_eq_some_iff.1 hx).1
  have ha : xs.any p = true := List.any_eq_true.2 ⟨x, List.mem_of_getElem? hx, hp⟩
  rw [idxI, if_pos ha]
  congr 1
  rw [List.findIdx_eq hlt]
  refine ⟨by rw [List.getElem?_eq_getElem hlt] at hx; cases hx; exact hp, fun j hj => ?_⟩
  have := List.any_eq_false.1 h xs[j] (List.mem_take_iff_getElem.2 ⟨j, by omega, rfl⟩)
  simpa using this
theorem c95 (H : Heap) {v : AC} {xs : List Int} {f : Nat} {ps : List (Bid × Nat)} {p : Int → Bool} (hf : cx.fn f = true) (hp : ∀ x, ACalls cx f ([aI x] ++ capt ps) (H ++ []) (Vb (p x)) (H ++ [])) (hr : Rd cx H 1 eI v xs) (hn : xs.length ≤ 2 ^ 44) : ACalls cx 95 [.c v, .c (.fn f ps)] H (Vi .i64 (idxI p xs)) H := by
  refine acalls0 Try.func95 rfl rfl (fun S hS hw => ?_)
  refine aw_seq ?_
  refine aw_region ?_
  refine rr_pure (rp rfl) rfl rfl rfl ?_
  refine rr_nil rfl ?_
  refine then_n ?_
  refine aw_seq ?_
  refine aw_seq ?_
  refine aw_region ?_
  refine rr_pure (rp rfl) rfl rfl rfl ?_
  first
    | refine rr_pure (rp rfl) rfl rfl rfl ?_
    | refine rr_pure (r_lenR rfl rfl rfl ⟨_, _, hr⟩) rfl rfl rfl ?_
  refine rr_pure (rp rfl) rfl rfl rfl ?_
  refine rr_nil rfl ?_
  refine then_n ?_
  refine aw_block ?_
  refine aw_loop (σ := Nat) (fun i => [(0, sC v), (1, sC (.fn f ps)), (7, sI xs.length), (8, sI i)]) (fun _ => _) (fun i => i ≤ xs.length ∧ (xs.take i).any p = false) (fun i => xs.length - i) (0) (by simp) (by repeat (first | exact Sub.nil _ | refine Sub.cons rfl ?_)) rfl ?_
  intro i hi
  refine aw_seq ?_
  refine aw_region ?_
  refine rr_pure (rp rfl) rfl rfl rfl ?_
  refine rr_nil rfl ?_
  refine then_n ?_
  refine aw_seq ?_
  refine aw_cond rfl (fun b1 => ?_) (fun b1 => ?_)
  · have b1p := b1; try simp only [decide_eq_true_eq, decide_eq_false_iff_not, Bool.not_eq_true', Bool.not_eq_false', bne_iff_ne, ne_eq, bne_eq_false_iff_eq, beq_iff_eq, beq_eq_false_iff_ne, Int.natCast_inj] at b1p
    obtain ⟨x, hx⟩ := at_lt xs (i := i) (by omega)
    refine aw_skip ?_
    refine then_n ?_
    refine aw_seq ?_
    refine aw_block ?_
    refine aw_seq ?_
    refine aw_region ?_
    refine rr_pure (rp rfl) rfl rfl rfl ?_
    refine rr_pure (rp rfl) rfl rfl rfl ?_
    refine rr_nil rfl ?_
    refine then_n ?_
    refine aw_seq ?_
    refine aw_region ?_
    refine rr_pure (rp rfl) rfl rfl rfl ?_
    refine rr_pure (rp rfl) rfl rfl rfl ?_
    refine rr_pure (rp rfl) rfl rfl rfl ?_
    refine rr_pure (r_idxR rfl rfl rfl rfl rfl ⟨_, _, hr⟩ (by omega) (by omega)) rfl rfl rfl ?_
    first
      | refine rr_read (r_loadL rfl rfl rfl rfl rfl) rfl rfl rfl ?_
      | refine rr_read (r_loadA rfl rfl rfl (Rd.at hr (by assumption)) rfl) rfl rfl rfl ?_
    refine rr_read (r_callV rfl rfl rfl hf (hp _)) rfl rfl rfl ?_
    refine rr_nil rfl ?_
    refine then_n ?_
    refine aw_cond rfl (fun b2 => ?_) (fun b2 => ?_)
    · have b2p := b2; try simp only [decide_eq_true_eq, decide_eq_false_iff_not, Bool.not_eq_true', Bool.not_eq_false', bne_iff_ne, ne_eq, bne_eq_false_iff_eq, beq_iff_eq, beq_eq_false_iff_ne, Int.natCast_inj] at b2p
      refine aw_seq ?_
      refine aw_region ?_
      refine rr_pure (rp rfl) rfl rfl rfl ?_
      refine rr_pure (rp rfl) rfl rfl rfl ?_
      refine rr_nil rfl ?_
      refine then_n ?_
      refine aw_ret ?_
      refine inb_r ?_
      refine then_r ?_
      refine then_r ?_
      refine inb_r ?_
      refine then_r ?_
      exact fin_i rfl (idx_at hi.2 hx b2).symm
    · have b2p := b2; try simp only [decide_eq_true_eq, decide_eq_false_iff_not, Bool.not_eq_true', Bool.not_eq_false', bne_iff_ne, ne_eq, bne_eq_false_iff_eq, beq_iff_eq, beq_eq_false_iff_ne, Int.natCast_inj] at b2p
      refine aw_skip ?_
      refine inb_n ?_
      refine then_n ?_
      refine aw_region ?_
      refine rr_pure (r_addn rfl rfl rfl ⟨by omega, by omega⟩) rfl rfl rfl ?_
      refine rr_pure (rp rfl) rfl rfl rfl ?_
      refine rr_nil rfl ?_
      refine then_n ?_
      exact ⟨i + 1, ⟨by omega, by rw [List.take_add_one, hx, List.any_append, hi.2]; simpa using b2⟩, by omega, (by repeat (first | exact Sub.nil _ | refine Sub.cons rfl ?_)), rfl⟩
  · have b1p := b1; try simp only [decide_eq_true_eq, decide_eq_false_iff_not, Bool.not_eq_true', Bool.not_eq_false', bne_iff_ne, ne_eq, bne_eq_false_iff_eq, beq_iff_eq, beq_eq_false_iff_ne, Int.natCast_inj] at b1p
    rw [List.take_of_length_le (by omega)] at hi
    refine aw_exit ?_
    refine then_x ?_
    refine then_x ?_
    refine inb_e ?_
    refine then_n ?_
    refine aw_seq ?_
    refine aw_region ?_
    refine rr_pure (rp rfl) rfl rfl rfl ?_
    refine rr_nil rfl ?_
    refine then_n ?_
    refine aw_ret ?_
    exact fin_i rfl (by rw [idxI, hi.2]; rfl)
theorem c63 (H : Heap) {v : AC} {xs : List Int} {f : Nat} {ps : List (Bid × Nat)} {p : Int → Bool} (hf : cx.fn f = true) (hp : ∀ x, ACalls cx f ([aI x] ++ capt ps) (H ++ []) (Vb (p x)) (H ++ [])) (hr : Rd cx H 1 eI v xs) (hn : xs.length ≤ 2 ^ 44) : ACalls cx 63 [.c v, .c (.fn f ps)] H (Vb (xs.any p)) H := by
  refine acalls0 Try.func63 rfl rfl (fun S hS hw => ?_)
  refine aw_seq ?_
  refine aw_region ?_
  refine rr_pure (rp rfl) rfl rfl rfl ?_
  refine rr_nil rfl ?_
  refine then_n ?_
  refine aw_seq ?_
  refine aw_region ?_
  refine rr_pure (rp rfl) rfl rfl rfl ?_
  refine rr_pure (rp rfl) rfl rfl rfl ?_
  refine rr_read (r_callF rfl rfl rfl (c95 _ hf (by simpa using hp) hr.app hn)) rfl rfl rfl  ?_
  refine rr_pure (rp rfl) rfl rfl rfl ?_
  refine rr_pure (rp rfl) rfl rfl rfl ?_
  refine rr_nil rfl ?_
  refine then_n ?_
  refine aw_ret ?_
  exact fin_b rfl (by unfold idxI; split <;> simp_all)
theorem c108 (H : Heap) {x : Int} : ACalls cx 108 [aI x] H (Vb (!okVal x)) H := by
  refine acalls0 Try.func108 rfl rfl (fun S hS hw => ?_)
  refine aw_seq ?_
  refine aw_region ?_
  refine rr_pure (rp rfl) rfl rfl rfl ?_
  refine rr_nil rfl ?_
  refine then_n ?_
  refine aw_seq ?_
  refine aw_region ?_
  refine rr_pure (rp rfl) rfl rfl rfl ?_
  refine rr_read (r_callF rfl rfl rfl (c65 _)) rfl rfl rfl  ?_
  refine rr_pure (rp rfl) rfl rfl rfl ?_
  refine rr_pure (rp rfl) rfl rfl rfl ?_
  refine rr_nil rfl ?_
  refine then_n ?_
  refine aw_ret ?_
  exact fin_b rfl rfl
theorem any_not (xs : List Int) : (xs.any fun x => !okVal x) = !xs.all okVal := by
  induction xs with
  | nil => rfl
  | cons x xs ih => simp only [List.any_cons, List.all_cons, ih, Bool.not_and]
theorem c98 (H : Heap) {w h : Int} {v : AC} {xs : List Int} (hr : Rd cx H 1 eI v xs) (hn : xs.length ≤ 2 ^ 44) : ACalls cx 98 [aF w h v] H (Vb (okField w h xs)) H := by
  refine acalls0 Try.func98 rfl rfl (fun S hS hw => ?_)
  refine aw_seq ?_
  refine aw_region ?_
  refine rr_memL (r_boxL rfl rfl) rfl rfl rfl ?_
  refine rr_pure (rp rfl) rfl rfl rfl ?_
  refine rr_nil rfl ?_
  refine then_n ?_
  refine aw_seq ?_
  refine aw_region ?_
  refine rr_pure (rp rfl) rfl rfl rfl ?_
  first
    | refine rr_read (r_loadL rfl rfl rfl rfl rfl) rfl rfl rfl ?_
    | refine rr_read (r_loadA rfl rfl rfl (Rd.at (by assumption) (by assumption)) rfl) rfl rfl rfl ?_
  refine rr_read (r_callF rfl rfl rfl (c56 _)) rfl rfl rfl  ?_
  refine rr_pure (rp rfl) rfl rfl rfl ?_
  refine rr_split rfl (fun g1 => ?_) (fun g1 => ?_)
  · have g1p := g1; try simp only [decide_eq_true_eq, decide_eq_false_iff_not, Bool.not_eq_true', Bool.not_eq_false', bne_iff_ne, ne_eq, bne_eq_false_iff_eq, beq_iff_eq, beq_eq_false_iff_ne, Int.natCast_inj] at g1p
    refine rr_pure (rp rfl) rfl rfl g1 ?_
    first
      | refine rr_read (r_loadL rfl rfl rfl rfl rfl) rfl rfl g1 ?_
      | refine rr_read (r_loadA rfl rfl rfl (Rd.at (by assumption) (by assumption)) rfl) rfl rfl g1 ?_
    refine rr_read (r_callF rfl rfl rfl (c56 _)) rfl rfl g1  ?_
    refine rr_pure (r_pick_t rfl rfl g1 rfl) rfl rfl rfl ?_
    refine rr_pure (rp rfl) rfl rfl rfl ?_
    refine rr_split rfl (fun g2 => ?_) (fun g2 => ?_)
    · have g2p := g2; try simp only [decide_eq_true_eq, decide_eq_false_iff_not, Bool.not_eq_true', Bool.not_eq_false', bne_iff_ne, ne_eq, bne_eq_false_iff_eq, beq_iff_eq, beq_eq_false_iff_ne, Int.natCast_inj] at g2p
      refine rr_pure (rp rfl) rfl rfl g2 ?_
      first
        | refine rr_read (r_loadL rfl rfl rfl rfl rfl) rfl rfl g2 ?_
        | refine rr_read (r_loadA rfl rfl rfl (Rd.at (by assumption) (by assumption)) rfl) rfl rfl g2 ?_
      first
        | refine rr_pure (rp rfl) rfl rfl g2 ?_
        | refine rr_pure (r_lenR rfl rfl rfl ⟨_, _, hr⟩) rfl rfl g2 ?_
      refine rr_pure (rp rfl) rfl rfl g2 ?_
      first
        | refine rr_read (r_loadL rfl rfl rfl rfl rfl) rfl rfl g2 ?_
        | refine rr_read (r_loadA rfl rfl rfl (Rd.at (by assumption) (by assumption)) rfl) rfl rfl g2 ?_
      refine rr_pure (rp rfl) rfl rfl g2 ?_
      first
        | refine rr_read (r_loadL rfl rfl rfl rfl rfl) rfl rfl g2 ?_
        | refine rr_read (r_loadA rfl rfl rfl (Rd.at (by assumption) (by assumption)) rfl) rfl rfl g2 ?_
      refine rr_pure (r_muln rfl rfl rfl (by have := shape_b (w := w) (h := h) (by simp [shape, g1, g2]); constructor <;> omega)) rfl rfl g2 ?_
      refine rr_pure (rp rfl) rfl rfl g2 ?_
      refine rr_pure (r_pick_t rfl rfl g2 rfl) rfl rfl rfl ?_
      refine rr_pure (rp rfl) rfl rfl rfl ?_
      refine rr_split rfl (fun g3 => ?_) (fun g3 => ?_)
      · have g3p := g3; try simp only [decide_eq_true_eq, decide_eq_false_iff_not, Bool.not_eq_true', Bool.not_eq_false', bne_iff_ne, ne_eq, bne_eq_false_iff_eq, beq_iff_eq, beq_eq_false_iff_ne, Int.natCast_inj] at g3p
        refine rr_pure (rp rfl) rfl rfl g3 ?_
        first
          | refine rr_read (r_loadL rfl rfl rfl rfl rfl) rfl rfl g3 ?_
          | refine rr_read (r_loadA rfl rfl rfl (Rd.at (by assumption) (by assumption)) rfl) rfl rfl g3 ?_
        refine rr_read (r_callF rfl rfl rfl (c63 _ rfl (fun x => c108 _) hr.app hn)) rfl rfl g3  ?_
        refine rr_pure (rp rfl) rfl rfl g3 ?_
        refine rr_pure (r_pick_t rfl rfl g3 rfl) rfl rfl rfl ?_
        refine rr_pure (rp rfl) rfl rfl rfl ?_
        refine rr_nil rfl ?_
        refine then_n ?_
        refine aw_ret ?_
        exact fin_b rfl (by simp_all [okField, shape, any_not])
      · have g3p := g3; try simp only [decide_eq_true_eq, decide_eq_false_iff_not, Bool.not_eq_true', Bool.not_eq_false', bne_iff_ne, ne_eq, bne_eq_false_iff_eq, beq_iff_eq, beq_eq_false_iff_ne, Int.natCast_inj] at g3p
        refine rr_skip rfl rfl g3 ?_
        refine rr_skip rfl rfl g3 ?_
        refine rr_skip rfl rfl g3 ?_
        refine rr_skip rfl rfl g3 ?_
        refine rr_pure (r_pick_f rfl rfl g3 rfl) rfl rfl rfl ?_
        refine rr_pure (rp rfl) rfl rfl rfl ?_
        refine rr_nil rfl ?_
        refine then_n ?_
        refine aw_ret ?_
        exact fin_b rfl (by simp_all [okField, shape, any_not])
    · have g2p := g2; try simp only [decide_eq_true_eq, decide_eq_false_iff_not, Bool.not_eq_true', Bool.not_eq_false', bne_iff_ne, ne_eq, bne_eq_false_iff_eq, beq_iff_eq, beq_eq_false_iff_ne, Int.natCast_inj] at g2p
      refine rr_skip rfl rfl g2 ?_
      refine rr_skip rfl rfl g2 ?_
      refine rr_skip rfl rfl g2 ?_
      refine rr_skip rfl rfl g2 ?_
      refine rr_skip rfl rfl g2 ?_
      refine rr_skip rfl rfl g2 ?_
      refine rr_skip rfl rfl g2 ?_
      refine rr_skip rfl rfl g2 ?_
      refine rr_skip rfl rfl g2 ?_
      refine rr_pure (r_pick_f rfl rfl g2 rfl) rfl rfl rfl ?_
      refine rr_pure (rp rfl) rfl rfl rfl ?_
      refine rr_skip rfl rfl rfl ?_
      refine rr_skip rfl rfl rfl ?_
      refine rr_skip rfl rfl rfl ?_
      refine rr_skip rfl rfl rfl ?_
      refine rr_pure (r_pick_f rfl rfl rfl rfl) rfl rfl rfl ?_
      refine rr_pure (rp rfl) rfl rfl rfl ?_
      refine rr_nil rfl ?_
      refine then_n ?_
      refine aw_ret ?_
      exact fin_b rfl (by simp_all [okField, shape, any_not])
  · have g1p := g1; try simp only [decide_eq_true_eq, decide_eq_false_iff_not, Bool.not_eq_true', Bool.not_eq_false', bne_iff_ne, ne_eq, bne_eq_false_iff_eq, beq_iff_eq, beq_eq_false_iff_ne, Int.natCast_inj] at g1p
    refine rr_skip rfl rfl g1 ?_
    refine rr_skip rfl rfl g1 ?_
    refine rr_skip rfl rfl g1 ?_
    refine rr_pure (r_pick_f rfl rfl g1 rfl) rfl rfl rfl ?_
    refine rr_pure (rp rfl) rfl rfl rfl ?_
    refine rr_skip rfl rfl rfl ?_
    refine rr_skip rfl rfl rfl ?_
    refine rr_skip rfl rfl rfl ?_
    refine rr_skip rfl rfl rfl ?_
    refine rr_skip rfl rfl rfl ?_
    refine rr_skip rfl rfl rfl ?_
    refine rr_skip rfl rfl rfl ?_
    refine rr_skip rfl rfl rfl ?_
    refine rr_skip rfl rfl rfl ?_
    refine rr_pure (r_pick_f rfl rfl rfl rfl) rfl rfl rfl ?_
    refine rr_pure (rp rfl) rfl rfl rfl ?_
    refine rr_skip rfl rfl rfl ?_
    refine rr_skip rfl rfl rfl ?_
    refine rr_skip rfl rfl rfl ?_
    refine rr_skip rfl rfl rfl ?_
    refine rr_pure (r_pick_f rfl rfl rfl rfl) rfl rfl rfl ?_
    refine rr_pure (rp rfl) rfl rfl rfl ?_
    refine rr_nil rfl ?_
    refine then_n ?_
    refine aw_ret ?_
    exact fin_b rfl (by simp_all [okField, shape, any_not])
def incr (xs : List Int) : Bool := (List.range (xs.length - 1)).all fun i => decide (xs.getD i 0 < xs.getD (i + 1) 0)
theorem c110 (H : Heap) {v : AC} {xs : List Int} (hr : Rd cx H 1 eI v xs) (hn : xs.length ≤ 2 ^ 44) : ACalls cx 110 [.c v] H (Vb (incr xs)) H := by
  refine acalls0 Try.func110 rfl rfl (fun S hS hw => ?_)
  refine aw_seq ?_
  refine aw_region ?_
  refine rr_pure (rp rfl) rfl rfl rfl ?_
  refine rr_nil rfl ?_
  refine then_n ?_
  refine aw_seq ?_
  refine aw_seq ?_
  refine aw_region ?_
  refine rr_pure (rp rfl) rfl rfl rfl ?_
  refine rr_nil rfl ?_
  refine then_n ?_
  refine aw_block ?_
  refine aw_loop (σ := Nat) (fun i => [(0, sC v), (3, sI ((i : Int) + 1))]) (fun _ => _) (fun i => i ≤ xs.length - 1 ∧ (List.range i).all (fun i => decide (xs.getD i 0 < xs.getD (i + 1) 0)) = true) (fun i => xs.length - i) (0) (by simp) (by repeat (first | exact Sub.nil _ | refine Sub.cons rfl ?_)) rfl ?_
  intro i hi
  refine aw_seq ?_
  refine aw_seq ?_
  refine aw_region ?_
  refine rr_pure (rp rfl) rfl rfl rfl ?_
  refine rr_pure (rp rfl) rfl rfl rfl ?_
  first
    | refine rr_pure (rp rfl) rfl rfl rfl ?_
    | refine rr_pure (r_lenR rfl rfl rfl ⟨_, _, hr⟩) rfl rfl rfl ?_
  refine rr_pure (rp rfl) rfl rfl rfl ?_
  refine rr_nil rfl ?_
  refine then_n ?_
  refine aw_cond rfl (fun b1 => ?_) (fun b1 => ?_)
  · have b1p := b1; try simp only [decide_eq_true_eq, decide_eq_false_iff_not, Bool.not_eq_true', Bool.not_eq_false', bne_iff_ne, ne_eq, bne_eq_false_iff_eq, beq_iff_eq, beq_eq_false_iff_ne, Int.natCast_inj] at b1p
    have hx : xs[((i : Int) + 1 - 1).toNat]? = some (xs.getD i 0) := by rw [show ((i : Int) + 1 - 1).toNat = i by omega, List.getD_eq_getElem?_getD, List.getElem?_eq_getElem (by omega)]; rfl
    have hy : xs[((i : Int) + 1).toNat]? = some (xs.getD (i + 1) 0) := by rw [show ((i : Int) + 1).toNat = i + 1 by omega, List.getD_eq_getElem?_getD, List.getElem?_eq_getElem (by omega)]; rfl
    refine aw_skip ?_
    refine then_n ?_
    refine aw_seq ?_
    refine aw_block ?_
    refine aw_seq ?_
    refine aw_region_draw ?_
    refine rr_pure (rp rfl) rfl rfl rfl ?_
    refine rr_pure (rp rfl) rfl rfl rfl ?_
    refine rr_pure (r_subn rfl rfl rfl ⟨by omega, by omega⟩) rfl rfl rfl ?_
    refine rr_pure (r_idxR rfl rfl rfl rfl rfl ⟨_, _, hr⟩ (by omega) (by omega)) rfl rfl rfl ?_
    first
      | refine rr_read (r_loadL rfl rfl rfl rfl rfl) rfl rfl rfl ?_
      | refine rr_read (r_loadA rfl rfl rfl (Rd.at hr (by assumption)) rfl) rfl rfl rfl ?_
    refine rr_pure (rp rfl) rfl rfl rfl ?_
    refine rr_pure (rp rfl) rfl rfl rfl ?_
    refine rr_pure (r_idxR rfl rfl rfl rfl rfl ⟨_, _, hr⟩ (by omega) (by omega)) rfl rfl rfl ?_
    first
      | refine rr_read (r_loadL rfl rfl rfl rfl rfl) rfl rfl rfl ?_
      | refine rr_read (r_loadA rfl rfl rfl (Rd.at hr (by assumption)) rfl) rfl rfl rfl ?_
    refine rr_pure (rp rfl) rfl rfl rfl ?_
    refine rr_nil (by kernel_rfl) ?_
    refine then_n ?_
    refine aw_cond rfl (fun b2 => ?_) (fun b2 => ?_)
    · have b2p := b2; try simp only [decide_eq_true_eq, decide_eq_false_iff_not, Bool.not_eq_true', Bool.not_eq_false', bne_iff_ne, ne_eq, bne_eq_false_iff_eq, beq_iff_eq, beq_eq_false_iff_ne, Int.natCast_inj] at b2p
      refine aw_seq ?_
      refine aw_region ?_
      refine rr_pure (rp rfl) rfl rfl rfl ?_
      refine rr_nil rfl ?_
      refine then_n ?_
      refine aw_ret ?_
      refine inb_r ?_
      refine then_r ?_
      refine then_r ?_
      refine inb_r ?_
      refine then_r ?_
      exact fin_b rfl (range_not (i := i) (by omega) (by rw [decide_eq_false_iff_not]; omega)).symm
    · have b2p := b2; try simp only [decide_eq_true_eq, decide_eq_false_iff_not, Bool.not_eq_true', Bool.not_eq_false', bne_iff_ne, ne_eq, bne_eq_false_iff_eq, beq_iff_eq, beq_eq_false_iff_ne, Int.natCast_inj] at b2p
      refine aw_skip ?_
      refine inb_n ?_
      refine then_n ?_
      refine aw_region ?_
      refine rr_pure (rp rfl) rfl rfl rfl ?_
      refine rr_pure (r_addn rfl rfl rfl ⟨by omega, by omega⟩) rfl rfl rfl ?_
      refine rr_pure (rp rfl) rfl rfl rfl ?_
      refine rr_nil rfl ?_
      refine then_n ?_
      exact ⟨i + 1, ⟨by omega, range_step hi.2 (by rw [decide_eq_true_eq]; omega)⟩, by omega, (by repeat (first | exact Sub.nil _ | refine Sub.cons rfl ?_)), rfl⟩
  · have b1p := b1; try simp only [decide_eq_true_eq, decide_eq_false_iff_not, Bool.not_eq_true', Bool.not_eq_false', bne_iff_ne, ne_eq, bne_eq_false_iff_eq, beq_iff_eq, beq_eq_false_iff_ne, Int.natCast_inj] at b1p
    have hil : i = xs.length - 1 := by omega
    subst hil
    refine aw_exit ?_
    refine then_x ?_
    refine then_x ?_
    refine inb_e ?_
    refine then_n ?_
    refine aw_seq ?_
    refine aw_region ?_
    refine rr_pure (rp rfl) rfl rfl rfl ?_
    refine rr_nil rfl ?_
    refine then_n ?_
    refine aw_ret ?_
    exact fin_b rfl hi.2.symm
theorem c111 (H : Heap) {v : AC} {xs : List Int} {lo up : Int} (hr : Rd cx H 1 eI v xs) (hn : xs.length ≤ 2 ^ 44) : ACalls cx 111 [.c v, aI lo, aI up] H (Vb (xs.all fun x => within x lo up)) H := by
  refine acalls0 Try.func111 rfl rfl (fun S hS hw => ?_)
  refine aw_seq ?_
  refine aw_region ?_
  refine rr_pure (rp rfl) rfl rfl rfl ?_
  refine rr_nil rfl ?_
  refine then_n ?_
  refine aw_seq ?_
  refine aw_seq ?_
  refine aw_region ?_
  refine rr_pure (rp rfl) rfl rfl rfl ?_
  first
    | refine rr_pure (rp rfl) rfl rfl rfl ?_
    | refine rr_pure (r_lenR rfl rfl rfl ⟨_, _, hr⟩) rfl rfl rfl ?_
  refine rr_pure (rp rfl) rfl rfl rfl ?_
  refine rr_nil rfl ?_
  refine then_n ?_
  refine aw_block ?_
  refine aw_loop (σ := Nat) (fun i => [(1, sI lo), (2, sI up), (9, sC v), (10, sI xs.length), (11, sI i)]) (fun _ => _) (fun i => i ≤ xs.length ∧ (xs.take i).all (fun x => within x lo up) = true) (fun i => xs.length - i) (0) (by simp) (by repeat (first | exact Sub.nil _ | refine Sub.cons rfl ?_)) rfl ?_
  intro i hi
  refine aw_seq ?_
  refine aw_region ?_
  refine rr_pure (rp rfl) rfl rfl rfl ?_
  refine rr_nil rfl ?_
  refine then_n ?_
  refine aw_seq ?_
  refine aw_cond rfl (fun b1 => ?_) (fun b1 => ?_)
  · have b1p := b1; try simp only [decide_eq_true_eq, decide_eq_false_iff_not, Bool.not_eq_true', Bool.not_eq_false', bne_iff_ne, ne_eq, bne_eq_false_iff_eq, beq_iff_eq, beq_eq_false_iff_ne, Int.natCast_inj] at b1p
    obtain ⟨x, hx⟩ := at_lt xs (i := i) (by omega)
    refine aw_skip ?_
    refine then_n ?_
    refine aw_seq ?_
    refine aw_block ?_
    refine aw_seq ?_
    refine aw_region ?_
    refine rr_pure (r_idxR rfl rfl rfl rfl rfl ⟨_, _, hr⟩ (by omega) (by omega)) rfl rfl rfl ?_
    first
      | refine rr_read (r_loadL rfl rfl rfl rfl rfl) rfl rfl rfl ?_
      | refine rr_read (r_loadA rfl rfl rfl (Rd.at hr (by assumption)) rfl) rfl rfl rfl ?_
    refine rr_pure (rp rfl) rfl rfl rfl ?_
    refine rr_nil rfl ?_
    refine then_n ?_
    refine aw_seq ?_
    refine aw_region ?_
    refine rr_pure (rp rfl) rfl rfl rfl ?_
    refine rr_pure (rp rfl) rfl rfl rfl ?_
    refine rr_pure (rp rfl) rfl rfl rfl ?_
    refine rr_read (r_callF rfl rfl rfl (c56 _)) rfl rfl rfl  ?_
    refine rr_pure (rp rfl) rfl rfl rfl ?_
    refine rr_nil rfl ?_
    refine then_n ?_
    refine aw_cond rfl (fun b2 => ?_) (fun b2 => ?_)
    · have b2p := b2; try simp only [decide_eq_true_eq, decide_eq_false_iff_not, Bool.not_eq_true', Bool.not_eq_false', bne_iff_ne, ne_eq, bne_eq_false_iff_eq, beq_iff_eq, beq_eq_false_iff_ne, Int.natCast_inj] at b2p
      refine aw_seq ?_
      refine aw_region ?_
      refine rr_pure (rp rfl) rfl rfl rfl ?_
      refine rr_nil rfl ?_
      refine then_n ?_
      refine aw_ret ?_
      refine inb_r ?_
      refine then_r ?_
      refine then_r ?_
      refine inb_r ?_
      refine then_r ?_
      exact fin_b rfl (all_not hx (p := fun x => within x lo up) (by simpa using b2)).symm
    · have b2p := b2; try simp only [decide_eq_true_eq, decide_eq_false_iff_not, Bool.not_eq_true', Bool.not_eq_false', bne_iff_ne, ne_eq, bne_eq_false_iff_eq, beq_iff_eq, beq_eq_false_iff_ne, Int.natCast_inj] at b2p
      refine aw_skip ?_
      refine inb_n ?_
      refine then_n ?_
      refine aw_region ?_
      refine rr_pure (r_addn rfl rfl rfl ⟨by omega, by omega⟩) rfl rfl rfl ?_
      refine rr_pure (rp rfl) rfl rfl rfl ?_
      refine rr_nil rfl ?_
      refine then_n ?_
      exact ⟨i + 1, ⟨by omega, all_take hi.2 hx (by simpa using b2)⟩, by omega, (by repeat (first | exact Sub.nil _ | refine Sub.cons rfl ?_)), rfl⟩
  · have b1p := b1; try simp only [decide_eq_true_eq, decide_eq_false_iff_not, Bool.not_eq_true', Bool.not_eq_false', bne_iff_ne, ne_eq, bne_eq_false_iff_eq, beq_iff_eq, beq_eq_false_iff_ne, Int.natCast_inj] at b1p
    rw [List.take_of_length_le (by omega)] at hi
    refine aw_exit ?_
    refine then_x ?_
    refine then_x ?_
    refine inb_e ?_
    refine then_n ?_
    refine aw_seq ?_
    refine aw_region ?_
    refine rr_pure (rp rfl) rfl rfl rfl ?_
    refine rr_nil rfl ?_
    refine then_n ?_
    refine aw_ret ?_
    exact fin_b rfl hi.2.symm
theorem rise_eq (lo up : Int) (xs : List Int) : (incr xs && xs.all fun x => within x lo up) = rise lo up xs := by
  rw [Bool.eq_iff_iff]
  simp only [Bool.and_eq_true, rise, incr, List.all_eq_true, List.mem_range, riseP, Bool.or_eq_true, beq_iff_eq, decide_eq_true_eq]
  constructor
  · rintro ⟨h1, h2⟩ i hi
    refine ⟨?_, ?_⟩
    · rw [List.getD_eq_getElem?_getD, List.getElem?_eq_getElem hi]; exact h2 _ (List.getElem_mem hi)
    · cases i with
      | zero => exact .inl rfl
      | succ i => exact .inr (h1 i (by omega))
  · intro h
    refine ⟨fun i hi => ?_, fun x hx => ?_⟩
    · rcases (h (i + 1) (by omega)).2 with h | h
      · omega
      · exact h
    · obtain ⟨i, hi, rfl⟩ := List.mem_iff_getElem.1 hx
      have := (h i hi).1
      rw [List.getD_eq_getElem?_getD, List.getElem?_eq_getElem hi] at this
      exact this
theorem c99 (H : Heap) {v : AC} {xs : List Int} {w h : Int} (hr : Rd cx H 1 eI v xs) (hn : xs.length ≤ 2 ^ 44) : ACalls cx 99 [aI w, aI h, .c v] H (Vb (okRegion w h xs)) H := by
  refine acalls0 Try.func99 rfl rfl (fun S hS hw => ?_)
  refine aw_seq ?_
  refine aw_region ?_
  refine rr_pure (rp rfl) rfl rfl rfl ?_
  refine rr_nil rfl ?_
  refine then_n ?_
  refine aw_seq ?_
  refine aw_region ?_
  refine rr_pure (rp rfl) rfl rfl rfl ?_
  refine rr_pure (rp rfl) rfl rfl rfl ?_
  refine rr_read (r_callF rfl rfl rfl (c109 _)) rfl rfl rfl  ?_
  refine rr_pure (rp rfl) rfl rfl rfl ?_
  refine rr_split rfl (fun g1 => ?_) (fun g1 => ?_)
  · have g1p := g1; try simp only [decide_eq_true_eq, decide_eq_false_iff_not, Bool.not_eq_true', Bool.not_eq_false', bne_iff_ne, ne_eq, bne_eq_false_iff_eq, beq_iff_eq, beq_eq_false_iff_ne, Int.natCast_inj] at g1p
    refine rr_pure (rp rfl) rfl rfl g1 ?_
    refine rr_read (r_callF rfl rfl rfl (c110 _ hr.app hn)) rfl rfl g1  ?_
    refine rr_pure (r_pick_t rfl rfl g1 rfl) rfl rfl rfl ?_
    refine rr_pure (rp rfl) rfl rfl rfl ?_
    refine rr_split rfl (fun g2 => ?_) (fun g2 => ?_)
    · have g2p := g2; try simp only [decide_eq_true_eq, decide_eq_false_iff_not, Bool.not_eq_true', Bool.not_eq_false', bne_iff_ne, ne_eq, bne_eq_false_iff_eq, beq_iff_eq, beq_eq_false_iff_ne, Int.natCast_inj] at g2p
      refine rr_pure (rp rfl) rfl rfl g2 ?_
      refine rr_pure (rp rfl) rfl rfl g2 ?_
      refine rr_pure (rp rfl) rfl rfl g2 ?_
      refine rr_pure (r_muln rfl rfl rfl (by have := shape_b g1; constructor <;> omega)) rfl rfl g2 ?_
      refine rr_pure (r_subn rfl rfl rfl (by have := shape_b g1; constructor <;> omega)) rfl rfl g2 ?_
      refine rr_read (r_callF rfl rfl rfl (c111 _ hr.app hn)) rfl rfl g2  ?_
      refine rr_pure (r_pick_t rfl rfl g2 rfl) rfl rfl rfl ?_
      refine rr_pure (rp rfl) rfl rfl rfl ?_
      refine rr_nil rfl ?_
      refine then_n ?_
      refine aw_ret ?_
      exact fin_b rfl (by simp_all [okRegion, ← rise_eq])
    · have g2p := g2; try simp only [decide_eq_true_eq, decide_eq_false_iff_not, Bool.not_eq_true', Bool.not_eq_false', bne_iff_ne, ne_eq, bne_eq_false_iff_eq, beq_iff_eq, beq_eq_false_iff_ne, Int.natCast_inj] at g2p
      refine rr_skip rfl rfl g2 ?_
      refine rr_skip rfl rfl g2 ?_
      refine rr_skip rfl rfl g2 ?_
      refine rr_skip rfl rfl g2 ?_
      refine rr_skip rfl rfl g2 ?_
      refine rr_skip rfl rfl g2 ?_
      refine rr_pure (r_pick_f rfl rfl g2 rfl) rfl rfl rfl ?_
      refine rr_pure (rp rfl) rfl rfl rfl ?_
      refine rr_nil rfl ?_
      refine then_n ?_
      refine aw_ret ?_
      exact fin_b rfl (by simp_all [okRegion, ← rise_eq])
  · have g1p := g1; try simp only [decide_eq_true_eq, decide_eq_false_iff_not, Bool.not_eq_true', Bool.not_eq_false', bne_iff_ne, ne_eq, bne_eq_false_iff_eq, beq_iff_eq, beq_eq_false_iff_ne, Int.natCast_inj] at g1p
    refine rr_skip rfl rfl g1 ?_
    refine rr_skip rfl rfl g1 ?_
    refine rr_pure (r_pick_f rfl rfl g1 rfl) rfl rfl rfl ?_
    refine rr_pure (rp rfl) rfl rfl rfl ?_
    refine rr_skip rfl rfl rfl ?_
    refine rr_skip rfl rfl rfl ?_
    refine rr_skip rfl rfl rfl ?_
    refine rr_skip rfl rfl rfl ?_
    refine rr_skip rfl rfl rfl ?_
    refine rr_skip rfl rfl rfl ?_
    refine rr_pure (r_pick_f rfl rfl rfl rfl) rfl rfl rfl ?_
    refine rr_pure (rp rfl) rfl rfl rfl ?_
    refine rr_nil rfl ?_
    refine then_n ?_
    refine aw_ret ?_
    exact fin_b rfl (by simp_all [okRegion, ← rise_eq])
theorem c71 (H : Heap) {w h : Int} {v v' : AC} {xs ys : List Int} (hr : Rd cx H 1 eI v xs) (hr' : Rd cx H 1 eI v' ys) (hn : xs.length ≤ 2 ^ 44) (hn' : ys.length ≤ 2 ^ 44) : ACalls cx 71 [aF w h v, .c v'] H (Vb (asked w h xs ys)) H := by
  refine acalls0 Try.func71 rfl rfl (fun S hS hw => ?_)
  refine aw_seq ?_
  refine aw_region ?_
  refine rr_memL (r_boxL rfl rfl) rfl rfl rfl ?_
  refine rr_pure (rp rfl) rfl rfl rfl ?_
  refine rr_nil rfl ?_
  refine then_n ?_
  refine aw_seq ?_
  refine aw_region ?_
  first
    | refine rr_read (r_loadL rfl rfl rfl rfl rfl) rfl rfl rfl ?_
    | refine rr_read (r_loadA rfl rfl rfl (Rd.at (by assumption) (by assumption)) rfl) rfl rfl rfl ?_
  refine rr_read (r_callF rfl rfl rfl (c98 _ hr.app hn)) rfl rfl rfl  ?_
  refine rr_pure (rp rfl) rfl rfl rfl ?_
  refine rr_split rfl (fun g1 => ?_) (fun g1 => ?_)
  · have g1p := g1; try simp only [decide_eq_true_eq, decide_eq_false_iff_not, Bool.not_eq_true', Bool.not_eq_false', bne_iff_ne, ne_eq, bne_eq_false_iff_eq, beq_iff_eq, beq_eq_false_iff_ne, Int.natCast_inj] at g1p
    refine rr_pure (rp rfl) rfl rfl g1 ?_
    first
      | refine rr_read (r_loadL rfl rfl rfl rfl rfl) rfl rfl g1 ?_
      | refine rr_read (r_loadA rfl rfl rfl (Rd.at (by assumption) (by assumption)) rfl) rfl rfl g1 ?_
    refine rr_pure (rp rfl) rfl rfl g1 ?_
    first
      | refine rr_read (r_loadL rfl rfl rfl rfl rfl) rfl rfl g1 ?_
      | refine rr_read (r_loadA rfl rfl rfl (Rd.at (by assumption) (by assumption)) rfl) rfl rfl g1 ?_
    refine rr_pure (rp rfl) rfl rfl g1 ?_
    refine rr_read (r_callF rfl rfl rfl (c99 _ hr'.app hn')) rfl rfl g1  ?_
    refine rr_pure (r_pick_t rfl rfl g1 rfl) rfl rfl rfl ?_
    refine rr_pure (rp rfl) rfl rfl rfl ?_
    refine rr_nil rfl ?_
    refine then_n ?_
    refine aw_ret ?_
    exact fin_b rfl (by simp_all [asked])
  · have g1p := g1; try simp only [decide_eq_true_eq, decide_eq_false_iff_not, Bool.not_eq_true', Bool.not_eq_false', bne_iff_ne, ne_eq, bne_eq_false_iff_eq, beq_iff_eq, beq_eq_false_iff_ne, Int.natCast_inj] at g1p
    refine rr_skip rfl rfl g1 ?_
    refine rr_skip rfl rfl g1 ?_
    refine rr_skip rfl rfl g1 ?_
    refine rr_skip rfl rfl g1 ?_
    refine rr_skip rfl rfl g1 ?_
    refine rr_skip rfl rfl g1 ?_
    refine rr_pure (r_pick_f rfl rfl g1 rfl) rfl rfl rfl ?_
    refine rr_pure (rp rfl) rfl rfl rfl ?_
    refine rr_nil rfl ?_
    refine then_n ?_
    refine aw_ret ?_
    exact fin_b rfl (by simp_all [asked])
theorem c100 (H : Heap) {w h w' h' : Int} {v v' : AC} : ACalls cx 100 [aF w h v, aF w' h' v'] H (Vb (w == w' && h == h')) H := by
  refine acalls0 Try.func100 rfl rfl (fun S hS hw => ?_)
  refine aw_seq ?_
  refine aw_region ?_
  refine rr_memL (r_boxL rfl rfl) rfl rfl rfl ?_
  refine rr_memL (r_boxL rfl rfl) rfl rfl rfl ?_
  refine rr_pure (rp rfl) rfl rfl rfl ?_
  refine rr_nil rfl ?_
  refine then_n ?_
  refine aw_seq ?_
  refine aw_region ?_
  refine rr_pure (rp rfl) rfl rfl rfl ?_
  first
    | refine rr_read (r_loadL rfl rfl rfl rfl rfl) rfl rfl rfl ?_
    | refine rr_read (r_loadA rfl rfl rfl (Rd.at (by assumption) (by assumption)) rfl) rfl rfl rfl ?_
  refine rr_pure (rp rfl) rfl rfl rfl ?_
  first
    | refine rr_read (r_loadL rfl rfl rfl rfl rfl) rfl rfl rfl ?_
    | refine rr_read (r_loadA rfl rfl rfl (Rd.at (by assumption) (by assumption)) rfl) rfl rfl rfl ?_
  refine rr_pure (rp rfl) rfl rfl rfl ?_
  refine rr_pure (rp rfl) rfl rfl rfl ?_
  refine rr_split rfl (fun g1 => ?_) (fun g1 => ?_)
  · have g1p := g1; try simp only [decide_eq_true_eq, decide_eq_false_iff_not, Bool.not_eq_true', Bool.not_eq_false', bne_iff_ne, ne_eq, bne_eq_false_iff_eq, beq_iff_eq, beq_eq_false_iff_ne, Int.natCast_inj] at g1p
    refine rr_pure (rp rfl) rfl rfl g1 ?_
    first
      | refine rr_read (r_loadL rfl rfl rfl rfl rfl) rfl rfl g1 ?_
      | refine rr_read (r_loadA rfl rfl rfl (Rd.at (by assumption) (by assumption)) rfl) rfl rfl g1 ?_
    refine rr_pure (rp rfl) rfl rfl g1 ?_
    first
      | refine rr_read (r_loadL rfl rfl rfl rfl rfl) rfl rfl g1 ?_
      | refine rr_read (r_loadA rfl rfl rfl (Rd.at (by assumption) (by assumption)) rfl) rfl rfl g1 ?_
    refine rr_pure (rp rfl) rfl rfl g1 ?_
    refine rr_pure (r_pick_t rfl rfl g1 rfl) rfl rfl rfl ?_
    refine rr_pure (rp rfl) rfl rfl rfl ?_
    refine rr_nil rfl ?_
    refine then_n ?_
    refine aw_ret ?_
    exact fin_b rfl (by simp_all)
  · have g1p := g1; try simp only [decide_eq_true_eq, decide_eq_false_iff_not, Bool.not_eq_true', Bool.not_eq_false', bne_iff_ne, ne_eq, bne_eq_false_iff_eq, beq_iff_eq, beq_eq_false_iff_ne, Int.natCast_inj] at g1p
    refine rr_skip rfl rfl g1 ?_
    refine rr_skip rfl rfl g1 ?_
    refine rr_skip rfl rfl g1 ?_
    refine rr_skip rfl rfl g1 ?_
    refine rr_skip rfl rfl g1 ?_
    refine rr_pure (r_pick_f rfl rfl g1 rfl) rfl rfl rfl ?_
    refine rr_pure (rp rfl) rfl rfl rfl ?_
    refine rr_nil rfl ?_
    refine then_n ?_
    refine aw_ret ?_
    exact fin_b rfl (by simp_all)
theorem c60 {H : Heap} {b : Nat} (hb : H.length = b) {bd : Bid} {off n lo : Nat} {ex : Bool} {xs : List Int} (hr : Rd cx H 1 eI (.sl bd off n lo ex) xs) (hn : xs.length ≤ 2 ^ 43) : ACalls cx 60 [.c (.sl bd off n lo ex)] H (.v (.c (.sl (.l b) 0 xs.length xs.length false))) (H ++ [bI xs]) := by
  subst hb
  refine acallsN Try.func60 rfl rfl (fun S hS hw => ?_)
  refine aw_seq ?_
  refine aw_region ?_
  refine rr_pure (rp rfl) rfl rfl rfl ?_
  refine rr_nil rfl ?_
  refine then_n ?_
  refine aw_seq ?_
  refine aw_seq ?_
  refine aw_region ?_
  refine rr_pure (rp rfl) rfl rfl rfl ?_
  refine rr_pure (r_slnil (.inl rfl) rfl rfl rfl rfl) rfl rfl rfl ?_
  refine rr_nil rfl ?_
  refine then_n ?_
  refine aw_cond rfl (fun b1 => ?_) (fun b1 => ?_)
  · have b1p := b1; try simp only [decide_eq_true_eq, decide_eq_false_iff_not, Bool.not_eq_true', Bool.not_eq_false', bne_iff_ne, ne_eq, bne_eq_false_iff_eq, beq_iff_eq, beq_eq_false_iff_ne, Int.natCast_inj] at b1p
    cases b1
  · have b1p := b1; try simp only [decide_eq_true_eq, decide_eq_false_iff_not, Bool.not_eq_true', Bool.not_eq_false', bne_iff_ne, ne_eq, bne_eq_false_iff_eq, beq_iff_eq, beq_eq_false_iff_ne, Int.natCast_inj] at b1p
    refine aw_skip ?_
    refine then_n ?_
    refine aw_seq ?_
    refine aw_region ?_
    refine rr_memL (r_litE (α := Int) (enc := eI) rfl rfl rfl rfl) rfl rfl rfl ?_
    refine rr_pure (rp rfl) rfl rfl rfl ?_
    refine rr_eff (r_appR (enc := eI) rfl rfl rfl rfl rfl rfl rfl lI (hr.app) (by (try dsimp only); (try simp only [List.length_nil, Nat.zero_add]); omega) (by (try simp only [List.length_nil, Nat.zero_add]); omega)) rfl rfl rfl (by simp) ?_
    refine rr_pure (rp rfl) rfl rfl rfl ?_
    refine rr_nil rfl ?_
    refine then_n ?_
    refine aw_ret ?_
    exact fin_mv [1] (resA_tmp rfl resA_nil) (mv_one rfl (flat_plain pI xs)) (by simp [resT, AT.ren, AV.ren, AC.ren, renB_base]) (by simp [Lo, AT.ids, AV.ids, AC.ids])
theorem c101 {H : Heap} {b : Nat} (hb : H.length = b) {w h : Int} {bd : Bid} {off n lo : Nat} {ex : Bool} {xs : List Int} (hr : Rd cx H 1 eI (.sl bd off n lo ex) xs) (hn : xs.length ≤ 2 ^ 43) : ACalls cx 101 [aF w h (.sl bd off n lo ex)] H (.v (aF w h (.sl (.l b) 0 xs.length xs.length false))) (H ++ [bI xs]) := by
  subst hb
  refine acallsN Try.func101 rfl rfl (fun S hS hw => ?_)
  refine aw_seq ?_
  refine aw_region ?_
  refine rr_memL (r_boxL rfl rfl) rfl rfl rfl ?_
  refine rr_memL (r_allocL rfl rfl) rfl rfl rfl ?_
  refine rr_nil rfl ?_
  refine then_n ?_
  refine aw_seq ?_
  refine aw_region_draw ?_
  refine rr_pure (rp rfl) rfl rfl rfl ?_
  first
    | refine rr_read (r_loadL rfl rfl rfl rfl rfl) rfl rfl rfl ?_
    | refine rr_read (r_loadA rfl rfl rfl (Rd.at (by assumption) (by assumption)) rfl) rfl rfl rfl ?_
  refine rr_pure (rp rfl) rfl rfl rfl ?_
  first
    | refine rr_read (r_loadL rfl rfl rfl rfl rfl) rfl rfl rfl ?_
    | refine rr_read (r_loadA rfl rfl rfl (Rd.at (by assumption) (by assumption)) rfl) rfl rfl rfl ?_
  refine rr_pure (rp rfl) rfl rfl rfl ?_
  first
    | refine rr_read (r_loadL rfl rfl rfl rfl rfl) rfl rfl rfl ?_
    | refine rr_read (r_loadA rfl rfl rfl (Rd.at (by assumption) (by assumption)) rfl) rfl rfl rfl ?_
  refine rr_memL (r_callF rfl rfl rfl (c60 List.length_append hr.app hn)) rfl rfl rfl  ?_
  refine rr_pure (rp rfl) rfl rfl rfl ?_
  refine rr_eff (r_storeL rfl rfl rfl rfl rfl rfl rfl (Nat.le_of_ble_eq_true rfl)) rfl rfl rfl (by simp) ?_
  refine rr_nil (by kernel_rfl) ?_
  refine then_n ?_
  refine aw_ret ?_
  exact fin_mv [2] (resA_cell rfl rfl rfl rfl resA_nil) (mv_one rfl (flat_plain pI xs)) (by simp [resT, AT.ren, AV.ren, AC.ren, renB_base]; rfl) (by simp [Lo, AT.ids, AV.ids, AC.ids])
theorem c102t (H : Heap) {w h : Int} {v : AC} {xs : List Int} (hr : Rd cx H 1 eI v xs) (hn : xs.length ≤ 2 ^ 44) (hok : okField w h xs = true) : ACalls cx 102 [aF w h v] H (.tu [aF w h v, aB true]) H := by
  refine acalls0 Try.func102 rfl rfl (fun S hS hw => ?_)
  refine aw_seq ?_
  refine aw_region ?_
  refine rr_memL (r_boxL rfl rfl) rfl rfl rfl ?_
  refine rr_memL (r_allocL rfl rfl) rfl rfl rfl ?_
  refine rr_pure (rp rfl) rfl rfl rfl ?_
  refine rr_nil rfl ?_
  refine then_n ?_
  refine aw_seq ?_
  refine aw_seq ?_
  refine aw_region ?_
  first
    | refine rr_read (r_loadL rfl rfl rfl rfl rfl) rfl rfl rfl ?_
    | refine rr_read (r_loadA rfl rfl rfl (Rd.at (by assumption) (by assumption)) rfl) rfl rfl rfl ?_
  refine rr_read (r_callF rfl rfl rfl (c98 _ hr.app hn)) rfl rfl rfl  ?_
  refine rr_pure (rp rfl) rfl rfl rfl ?_
  refine rr_nil rfl ?_
  refine then_n ?_
  refine aw_cond rfl (fun b1 => ?_) (fun b1 => ?_)
  · have b1p := b1; try simp only [decide_eq_true_eq, decide_eq_false_iff_not, Bool.not_eq_true', Bool.not_eq_false', bne_iff_ne, ne_eq, bne_eq_false_iff_eq, beq_iff_eq, beq_eq_false_iff_ne, Int.natCast_inj] at b1p
    exfalso; simp_all
  · have b1p := b1; try simp only [decide_eq_true_eq, decide_eq_false_iff_not, Bool.not_eq_true', Bool.not_eq_false', bne_iff_ne, ne_eq, bne_eq_false_iff_eq, beq_iff_eq, beq_eq_false_iff_ne, Int.natCast_inj] at b1p
    refine aw_skip ?_
    refine then_n ?_
    refine aw_seq ?_
    refine aw_region ?_
    first
      | refine rr_read (r_loadL rfl rfl rfl rfl rfl) rfl rfl rfl ?_
      | refine rr_read (r_loadA rfl rfl rfl (Rd.at (by assumption) (by assumption)) rfl) rfl rfl rfl ?_
    refine rr_eff (r_storeL rfl rfl rfl rfl rfl rfl rfl (Nat.le_of_ble_eq_true rfl)) rfl rfl rfl (by simp) ?_
    refine rr_pure (rp rfl) rfl rfl rfl ?_
    refine rr_nil rfl ?_
    refine then_n ?_
    refine aw_ret ?_
    exact fin_lo (resA_cell rfl rfl rfl rfl (resA_tmp rfl resA_nil)) rfl (by have := hr.lo; simpa [AT.ids, AV.ids, AC.ids] using this)
end Go.Proofs.Ytjjoigokeicneaa
