import Derived.Test.YtjjoigokeicneaaTA
import Derived.Test.YtjjoigokeicneaaAwU
namespace Go.Proofs.Ytjjoigokeicneaa
open Go.Aw
set_option maxRecDepth 100000
set_option linter.unusedSimpArgs false
set_option linter.unusedVariables false
theorem c11 {H L : Heap} {j : Nat} {xs : List Int} {k : Int} {n lo : Nat} {ex : Bool} (hj : L[j]? = some (bI xs)) (hn : n = xs.length) (hb : xs.length ≤ 2 ^ 44) (hk : 0 ≤ k ∧ k ≤ 2 ^ 50) : ACalls cx 11 [.c (.sl (.l (H.length + j)) 0 n lo ex), aI k] (H ++ L) (Vi .i64 (k + xs.length)) (H ++ L.set j (bI (mk k xs.length))) := by
  subst hn
  refine acallsM hj (flat_plain pI _) Try.func11 rfl rfl (fun S hS hw => ?_)
  refine aw_seq ?_
  refine aw_region ?_
  refine rr_pure (rp rfl) rfl rfl rfl ?_
  refine rr_nil rfl ?_
  refine then_n ?_
  refine aw_seq ?_
  refine aw_seq ?_
  refine aw_region ?_
  refine rr_pure (rp rfl) rfl rfl rfl ?_
  refine rr_nil rfl ?_
  refine then_n ?_
  refine aw_block ?_
  refine aw_loop (σ := Nat × Int) (fun s => [(0, sC (.sl (.l (H.length + j)) 0 xs.length lo ex)), (1, sI s.2), (5, sI s.1)]) (fun s => H ++ L.set j (bI (mk k s.1 ++ xs.drop s.1))) (fun s => s.1 ≤ xs.length ∧ s.2 = k + s.1) (fun s => xs.length - s.1) ((0, k)) (by simp) (by repeat (first | exact Sub.nil _ | refine Sub.cons rfl ?_)) (by show H ++ L.set j (bI xs) = _; rw [set_same hj]) ?_
  intro ⟨i, t⟩ hi
  obtain ⟨hi, ht⟩ : i ≤ xs.length ∧ t = k + i := hi
  subst ht
  refine aw_seq ?_
  refine aw_seq ?_
  refine aw_region ?_
  refine rr_pure (rp rfl) rfl rfl rfl ?_
  refine rr_pure (rp rfl) rfl rfl rfl ?_
  first
    | refine rr_pure (rp rfl) rfl rfl rfl ?_
    | refine rr_pure (r_lenR rfl rfl rfl ⟨_, _, by assumption⟩) rfl rfl rfl ?_
  refine rr_pure (rp rfl) rfl rfl rfl ?_
  refine rr_nil rfl ?_
  refine then_n ?_
  refine aw_cond rfl (fun b1 => ?_) (fun b1 => ?_)
  · have b1p := b1; try simp only [decide_eq_true_eq, decide_eq_false_iff_not, Bool.not_eq_true', Bool.not_eq_false', bne_iff_ne, ne_eq, bne_eq_false_iff_eq, beq_iff_eq, beq_eq_false_iff_ne, Int.natCast_inj] at b1p
    refine aw_skip ?_
    refine then_n ?_
    refine aw_seq ?_
    refine aw_block ?_
    refine aw_seq ?_
    refine aw_region ?_
    refine rr_pure (rp rfl) rfl rfl rfl ?_
    refine rr_pure (rp rfl) rfl rfl rfl ?_
    refine rr_pure (rp rfl) rfl rfl rfl ?_
    refine rr_pure (r_idx rfl rfl rfl rfl rfl (by omega) (by omega)) rfl rfl rfl ?_
    refine rr_eff (r_storeR (z := 1) rfl rfl rfl rfl (set_at hj) rfl lI rfl (by simp [mk_length]; omega)) rfl rfl rfl (by simp) ?_
    refine rr_nil rfl ?_
    refine then_n ?_
    refine aw_region ?_
    refine rr_pure (rp rfl) rfl rfl rfl ?_
    refine rr_pure (r_addn rfl rfl rfl ⟨by omega, by omega⟩) rfl rfl rfl ?_
    refine rr_pure (rp rfl) rfl rfl rfl ?_
    refine rr_nil rfl ?_
    refine inb_n ?_
    refine then_n ?_
    refine aw_region ?_
    refine rr_pure (rp rfl) rfl rfl rfl ?_
    refine rr_pure (r_addn rfl rfl rfl ⟨by omega, by omega⟩) rfl rfl rfl ?_
    refine rr_pure (rp rfl) rfl rfl rfl ?_
    refine rr_nil rfl ?_
    refine then_n ?_
    exact ⟨(i + 1, k + i + 1), ⟨by dsimp only; omega, by dsimp only; omega⟩, by dsimp only; omega, (by repeat (first | exact Sub.nil _ | refine Sub.cons rfl ?_)), (by dsimp only; rw [← mk_step (by omega), List.set_set]; rfl)⟩
  · have b1p := b1; try simp only [decide_eq_true_eq, decide_eq_false_iff_not, Bool.not_eq_true', Bool.not_eq_false', bne_iff_ne, ne_eq, bne_eq_false_iff_eq, beq_iff_eq, beq_eq_false_iff_ne, Int.natCast_inj] at b1p
    have hil : i = xs.length := by omega
    subst hil
    refine aw_exit ?_
    refine then_x ?_
    refine then_x ?_
    refine inb_e ?_
    refine then_n ?_
    refine aw_seq ?_
    refine aw_region ?_
    refine rr_pure (rp rfl) rfl rfl rfl ?_
    refine rr_pure (rp rfl) rfl rfl rfl ?_
    refine rr_nil rfl ?_
    refine then_n ?_
    refine aw_ret ?_
    exact fin_iM (J := []) (by simp) (resA_tmp rfl resA_nil) rfl
theorem c12 (H : Heap) {v : AC} {xs : List Int} {k : Int} (hr : Rd cx H 1 eI v xs) (hn : xs.length ≤ 2 ^ 44) (hk : 0 ≤ k ∧ k ≤ 2 ^ 50) : ACalls cx 12 [.c v, aI k] H (Vi .i64 (if xs = mk k xs.length then k + xs.length else -1)) H := by
  refine acalls0 Try.func12 rfl rfl (fun S hS hw => ?_)
  refine aw_seq ?_
  refine aw_region ?_
  refine rr_pure (rp rfl) rfl rfl rfl ?_
  refine rr_nil rfl ?_
  refine then_n ?_
  refine aw_seq ?_
  refine aw_seq ?_
  refine aw_region ?_
  refine rr_pure (rp rfl) rfl rfl rfl ?_
  refine rr_nil rfl ?_
  refine then_n ?_
  refine aw_block ?_
  refine aw_loop (σ := Nat × Int) (fun s => [(0, sC v), (1, sI s.2), (5, sI s.1)]) (fun _ => _) (fun s => (s.1 ≤ xs.length ∧ xs.take s.1 = mk k s.1) ∧ s.2 = k + s.1) (fun s => xs.length - s.1) ((0, k)) (by simp [mk]) (by repeat (first | exact Sub.nil _ | refine Sub.cons rfl ?_)) rfl ?_
  intro ⟨i, t⟩ hi
  obtain ⟨hi, ht⟩ : (i ≤ xs.length ∧ xs.take i = mk k i) ∧ t = k + i := hi
  subst ht
  refine aw_seq ?_
  refine aw_seq ?_
  refine aw_region ?_
  refine rr_pure (rp rfl) rfl rfl rfl ?_
  refine rr_pure (rp rfl) rfl rfl rfl ?_
  first
    | refine rr_pure (rp rfl) rfl rfl rfl ?_
    | refine rr_pure (r_lenR rfl rfl rfl ⟨_, _, hr⟩) rfl rfl rfl ?_
  refine rr_pure (rp rfl) rfl rfl rfl ?_
  refine rr_nil rfl ?_
  refine then_n ?_
  refine aw_cond rfl (fun b1 => ?_) (fun b1 => ?_)
  · have b1p := b1; try simp only [decide_eq_true_eq, decide_eq_false_iff_not, Bool.not_eq_true', Bool.not_eq_false', bne_iff_ne, ne_eq, bne_eq_false_iff_eq, beq_iff_eq, beq_eq_false_iff_ne, Int.natCast_inj] at b1p
    obtain ⟨x, hx⟩ := at_lt xs (i := i) (by omega)
    refine aw_skip ?_
    refine then_n ?_
    refine aw_seq ?_
    refine aw_block ?_
    refine aw_seq ?_
    refine aw_seq ?_
    refine aw_region ?_
    refine rr_pure (rp rfl) rfl rfl rfl ?_
    refine rr_pure (rp rfl) rfl rfl rfl ?_
    refine rr_pure (r_idxR rfl rfl rfl rfl rfl ⟨_, _, hr⟩ (by omega) (by omega)) rfl rfl rfl ?_
    first
      | refine rr_read (r_loadL rfl rfl rfl rfl rfl) rfl rfl rfl ?_
      | refine rr_read (r_loadA rfl rfl rfl (Rd.at hr (by assumption)) rfl) rfl rfl rfl ?_
    refine rr_pure (rp rfl) rfl rfl rfl ?_
    refine rr_pure (rp rfl) rfl rfl rfl ?_
    refine rr_nil rfl ?_
    refine then_n ?_
    refine aw_cond rfl (fun b2 => ?_) (fun b2 => ?_)
    · have b2p := b2; try simp only [decide_eq_true_eq, decide_eq_false_iff_not, Bool.not_eq_true', Bool.not_eq_false', bne_iff_ne, ne_eq, bne_eq_false_iff_eq, beq_iff_eq, beq_eq_false_iff_ne, Int.natCast_inj] at b2p
      refine aw_seq ?_
      refine aw_region ?_
      refine rr_pure (rp rfl) rfl rfl rfl ?_
      refine rr_nil rfl ?_
      refine then_n ?_
      refine aw_ret ?_
      refine then_r ?_
      refine inb_r ?_
      refine then_r ?_
      refine then_r ?_
      refine inb_r ?_
      refine then_r ?_
      exact fin_i rfl (by rw [if_neg]; intro e; rw [e, mk_get (by omega)] at hx; cases hx; exact b2p rfl)
    · have b2p := b2; try simp only [decide_eq_true_eq, decide_eq_false_iff_not, Bool.not_eq_true', Bool.not_eq_false', bne_iff_ne, ne_eq, bne_eq_false_iff_eq, beq_iff_eq, beq_eq_false_iff_ne, Int.natCast_inj] at b2p
      refine aw_skip ?_
      refine then_n ?_
      refine aw_region ?_
      refine rr_pure (rp rfl) rfl rfl rfl ?_
      refine rr_pure (r_addn rfl rfl rfl ⟨by omega, by omega⟩) rfl rfl rfl ?_
      refine rr_pure (rp rfl) rfl rfl rfl ?_
      refine rr_nil rfl ?_
      refine inb_n ?_
      refine then_n ?_
      refine aw_region ?_
      refine rr_pure (rp rfl) rfl rfl rfl ?_
      refine rr_pure (r_addn rfl rfl rfl ⟨by omega, by omega⟩) rfl rfl rfl ?_
      refine rr_pure (rp rfl) rfl rfl rfl ?_
      refine rr_nil rfl ?_
      refine then_n ?_
      exact ⟨(i + 1, k + i + 1), ⟨⟨by dsimp only; omega, by dsimp only; rw [List.take_add_one, hi.2, hx, mk_succ, b2p]; rfl⟩, by dsimp only; omega⟩, by dsimp only; omega, (by repeat (first | exact Sub.nil _ | refine Sub.cons rfl ?_)), rfl⟩
  · have b1p := b1; try simp only [decide_eq_true_eq, decide_eq_false_iff_not, Bool.not_eq_true', Bool.not_eq_false', bne_iff_ne, ne_eq, bne_eq_false_iff_eq, beq_iff_eq, beq_eq_false_iff_ne, Int.natCast_inj] at b1p
    refine aw_exit ?_
    refine then_x ?_
    refine then_x ?_
    refine inb_e ?_
    refine then_n ?_
    refine aw_seq ?_
    refine aw_region ?_
    refine rr_pure (rp rfl) rfl rfl rfl ?_
    refine rr_pure (rp rfl) rfl rfl rfl ?_
    refine rr_nil rfl ?_
    refine then_n ?_
    refine aw_ret ?_
    have hil : i = xs.length := by omega
    subst hil
    exact fin_i rfl (by rw [List.take_length] at hi; rw [if_pos hi.2])
theorem c31 {H L : Heap} {j : Nat} {w h : Int} {xs : List Int} {k : Int} {n lo : Nat} {ex : Bool} (hj : L[j]? = some (bI xs)) (hn : n = xs.length) (hb : xs.length ≤ 2 ^ 44) (hk : 0 ≤ k ∧ k ≤ 2 ^ 50) : ACalls cx 31 [aF w h (.sl (.l (H.length + j)) 0 n lo ex), aI k] (H ++ L) (Vi .i64 (k + xs.length)) (H ++ L.set j (bI (mk k xs.length))) := by
  refine acallsM hj (flat_plain pI _) Try.func31 rfl rfl (fun S hS hw => ?_)
  refine aw_seq ?_
  refine aw_region ?_
  refine rr_memL (r_boxL rfl rfl) rfl rfl rfl ?_
  refine rr_pure (rp rfl) rfl rfl rfl ?_
  refine rr_nil rfl ?_
  refine then_n ?_
  refine aw_seq ?_
  refine aw_region ?_
  refine rr_pure (rp rfl) rfl rfl rfl ?_
  refine rr_read (r_loadL rfl rfl rfl (ldL_last rfl) rfl) rfl rfl rfl ?_
  refine rr_pure (rp rfl) rfl rfl rfl ?_
  refine rr_eff (r_callF rfl rfl rfl (c11 (at_left hj) hn hb hk)) rfl rfl rfl (by simp) ?_
  refine rr_pure (rp rfl) rfl rfl rfl ?_
  refine rr_nil rfl ?_
  refine then_n ?_
  refine aw_seq ?_
  refine aw_region ?_
  refine rr_pure (rp rfl) rfl rfl rfl ?_
  refine rr_pure (rp rfl) rfl rfl rfl ?_
  refine rr_nil rfl ?_
  refine then_n ?_
  refine aw_ret ?_
  exact fin_iM (by rw [set_left hj, ← List.append_assoc]) (resA_tmp rfl resA_nil) rfl
theorem c32 (H : Heap) {w h : Int} {v : AC} {xs : List Int} {k : Int} (hr : Rd cx H 1 eI v xs) (hn : xs.length ≤ 2 ^ 44) (hk : 0 ≤ k ∧ k ≤ 2 ^ 50) : ACalls cx 32 [aF w h v, aI k] H (Vi .i64 (if xs = mk k xs.length then k + xs.length else -1)) H := by
  refine acalls0 Try.func32 rfl rfl (fun S hS hw => ?_)
  refine aw_seq ?_
  refine aw_region ?_
  refine rr_memL (r_boxL rfl rfl) rfl rfl rfl ?_
  refine rr_pure (rp rfl) rfl rfl rfl ?_
  refine rr_nil rfl ?_
  refine then_n ?_
  refine aw_seq ?_
  refine aw_region ?_
  refine rr_pure (rp rfl) rfl rfl rfl ?_
  first
    | refine rr_read (r_loadL rfl rfl rfl rfl rfl) rfl rfl rfl ?_
    | refine rr_read (r_loadA rfl rfl rfl (Rd.at (by assumption) (by assumption)) rfl) rfl rfl rfl ?_
  refine rr_pure (rp rfl) rfl rfl rfl ?_
  refine rr_read (r_callF rfl rfl rfl (c12 _ hr.app hn hk)) rfl rfl rfl  ?_
  refine rr_pure (rp rfl) rfl rfl rfl ?_
  refine rr_nil rfl ?_
  refine then_n ?_
  refine aw_seq ?_
  refine aw_seq ?_
  refine aw_region ?_
  refine rr_pure (rp rfl) rfl rfl rfl ?_
  refine rr_pure (rp rfl) rfl rfl rfl ?_
  refine rr_nil rfl ?_
  refine then_n ?_
  refine aw_cond rfl (fun b1 => ?_) (fun b1 => ?_)
  · have b1p := b1; try simp only [decide_eq_true_eq, decide_eq_false_iff_not, Bool.not_eq_true', Bool.not_eq_false', bne_iff_ne, ne_eq, bne_eq_false_iff_eq, beq_iff_eq, beq_eq_false_iff_ne, Int.natCast_inj] at b1p
    refine aw_seq ?_
    refine aw_region ?_
    refine rr_pure (rp rfl) rfl rfl rfl ?_
    refine rr_nil rfl ?_
    refine then_n ?_
    refine aw_ret ?_
    refine then_r ?_
    exact fin_i rfl (by split at b1p <;> first | rfl | omega | simp_all)
  · have b1p := b1; try simp only [decide_eq_true_eq, decide_eq_false_iff_not, Bool.not_eq_true', Bool.not_eq_false', bne_iff_ne, ne_eq, bne_eq_false_iff_eq, beq_iff_eq, beq_eq_false_iff_ne, Int.natCast_inj] at b1p
    refine aw_skip ?_
    refine then_n ?_
    refine aw_seq ?_
    refine aw_region ?_
    refine rr_pure (rp rfl) rfl rfl rfl ?_
    refine rr_pure (rp rfl) rfl rfl rfl ?_
    refine rr_nil rfl ?_
    refine then_n ?_
    refine aw_ret ?_
    exact fin_i rfl (by split at b1p <;> first | rfl | omega | simp_all)
def cond27 (w h w' h' : Int) (xs ys rs : List Int) : Bool := (okField w h xs && okField w' h' ys && w == w' && h == h') && asked w h xs rs
def copied (xs ys rs : List Int) : List Int := rs.foldl (fun acc i => acc.set i.toNat (ys.getD i.toNat 0)) xs
theorem c27f (H : Heap) {w h w' h' : Int} {v v' v'' : AC} {xs ys rs : List Int} (hr : Rd cx H 1 eI v xs) (hr' : Rd cx H 1 eI v' ys) (hr'' : Rd cx H 1 eI v'' rs) (hn : xs.length ≤ 2 ^ 43) (hn' : ys.length ≤ 2 ^ 43) (hn'' : rs.length ≤ 2 ^ 43) (hc : cond27 w h w' h' xs ys rs = false) :
    ACalls cx 27 [aF w h v, aF w' h' v', .c v''] H (.tu [aF 0 0 .ns, aB false]) H := by
  refine acalls0 Try.func27 rfl rfl (fun S hS hw => ?_)
  refine aw_seq ?_
  refine aw_region ?_
  refine rr_memL (r_boxL rfl rfl) rfl rfl rfl ?_
  refine rr_memL (r_boxL rfl rfl) rfl rfl rfl ?_
  refine rr_memL (r_allocL rfl rfl) rfl rfl rfl ?_
  refine rr_pure (rp rfl) rfl rfl rfl ?_
  refine rr_nil rfl ?_
  refine then_n ?_
  refine aw_seq ?_
  refine aw_seq ?_
  refine aw_region ?_
  first
    | refine rr_read (r_loadL rfl rfl rfl rfl rfl) rfl rfl rfl ?_
    | refine rr_read (r_loadA rfl rfl rfl (Rd.at (by assumption) (by assumption)) rfl) rfl rfl rfl ?_
  first
    | refine rr_read (r_loadL rfl rfl rfl rfl rfl) rfl rfl rfl ?_
    | refine rr_read (r_loadA rfl rfl rfl (Rd.at (by assumption) (by assumption)) rfl) rfl rfl rfl ?_
  refine rr_read (r_callF rfl rfl rfl (c68 _ hr.app hr'.app (by omega) (by omega))) rfl rfl rfl  ?_
  refine rr_pure (rp rfl) rfl rfl rfl ?_
  refine rr_pure (rp rfl) rfl rfl rfl ?_
  refine rr_split rfl (fun g1 => ?_) (fun g1 => ?_)
  · have g1p := g1; try simp only [decide_eq_true_eq, decide_eq_false_iff_not, Bool.not_eq_true', Bool.not_eq_false', bne_iff_ne, ne_eq, bne_eq_false_iff_eq, beq_iff_eq, beq_eq_false_iff_ne, Int.natCast_inj] at g1p
    refine rr_skip rfl rfl g1 ?_
    refine rr_skip rfl rfl g1 ?_
    refine rr_skip rfl rfl g1 ?_
    refine rr_skip rfl rfl g1 ?_
    refine rr_pure (r_pick_t rfl rfl g1 rfl) rfl rfl rfl ?_
    refine rr_nil rfl ?_
    refine then_n ?_
    refine aw_cond rfl (fun _ => ?_) (fun b2 => by first | cases b2 | (rw [b2] at b2; cases b2) | simp_all)
    refine aw_seq ?_
    refine aw_region ?_
    refine rr_pure (rp rfl) rfl rfl rfl ?_
    refine rr_eff (r_storeL rfl rfl rfl rfl rfl rfl rfl (Nat.le_of_ble_eq_true rfl)) rfl rfl rfl (by simp) ?_
    refine rr_pure (rp rfl) rfl rfl rfl ?_
    refine rr_nil rfl ?_
    refine then_n ?_
    refine aw_ret ?_
    refine then_r ?_
    exact fin_r (resA_cell rfl rfl rfl rfl (resA_tmp rfl resA_nil)) rfl rfl rfl
  · have g1p := g1; try simp only [decide_eq_true_eq, decide_eq_false_iff_not, Bool.not_eq_true', Bool.not_eq_false', bne_iff_ne, ne_eq, bne_eq_false_iff_eq, beq_iff_eq, beq_eq_false_iff_ne, Int.natCast_inj] at g1p
    first
      | refine rr_read (r_loadL rfl rfl rfl rfl rfl) rfl rfl g1 ?_
      | refine rr_read (r_loadA rfl rfl rfl (Rd.at (by assumption) (by assumption)) rfl) rfl rfl g1 ?_
    refine rr_pure (rp rfl) rfl rfl g1 ?_
    refine rr_read (r_callF rfl rfl rfl (c69 _ hr.app hr''.app (by omega) (by omega))) rfl rfl g1  ?_
    refine rr_pure (rp rfl) rfl rfl g1 ?_
    refine rr_pure (r_pick_f rfl rfl g1 rfl) rfl rfl rfl ?_
    refine rr_nil rfl ?_
    refine then_n ?_
    refine aw_cond rfl (fun b3 => ?_) (fun b3 => ?_)
    · have b3p := b3; try simp only [decide_eq_true_eq, decide_eq_false_iff_not, Bool.not_eq_true', Bool.not_eq_false', bne_iff_ne, ne_eq, bne_eq_false_iff_eq, beq_iff_eq, beq_eq_false_iff_ne, Int.natCast_inj] at b3p
      refine aw_seq ?_
      refine aw_region ?_
      refine rr_pure (rp rfl) rfl rfl rfl ?_
      refine rr_eff (r_storeL rfl rfl rfl rfl rfl rfl rfl (Nat.le_of_ble_eq_true rfl)) rfl rfl rfl (by simp) ?_
      refine rr_pure (rp rfl) rfl rfl rfl ?_
      refine rr_nil rfl ?_
      refine then_n ?_
      refine aw_ret ?_
      refine then_r ?_
      exact fin_r (resA_cell rfl rfl rfl rfl (resA_tmp rfl resA_nil)) rfl rfl rfl
    · have b3p := b3; try simp only [decide_eq_true_eq, decide_eq_false_iff_not, Bool.not_eq_true', Bool.not_eq_false', bne_iff_ne, ne_eq, bne_eq_false_iff_eq, beq_iff_eq, beq_eq_false_iff_ne, Int.natCast_inj] at b3p
      exfalso; simp_all [cond27]
theorem copied_len (xs ys rs : List Int) : (copied xs ys rs).length = xs.length := by
  unfold copied
  induction rs generalizing xs with
  | nil => rfl
  | cons r rs ih => simp only [List.foldl_cons]; rw [ih]; simp
theorem copied_step {xs ys rs : List Int} {i : Nat} {r y : Int} (hx : rs[i]? = some r) (hy : ys[r.toNat]? = some y) : (copied xs ys (rs.take i)).set r.toNat y = copied xs ys (rs.take (i + 1)) := by
  unfold copied
  rw [List.take_add_one, hx, List.foldl_append]
  simp only [Option.toList_some, List.foldl_cons, List.foldl_nil]
  rw [List.getD_eq_getElem?_getD, hy]; rfl
theorem rise_bd {lo up r : Int} {rs : List Int} {i : Nat} (h : rise lo up rs = true) (hx : rs[i]? = some r) : lo ≤ r ∧ r ≤ up := by
  have hlt := (List.getElem?_eq_some_iff.1 hx).1
  have := List.all_eq_true.1 h i (List.mem_range.2 hlt)
  unfold riseP at this
  rw [getD_at hx] at this
  simp only [within, Bool.and_eq_true, decide_eq_true_eq] at this
  exact this.1
theorem okField_bd {w h : Int} {xs : List Int} (hf : okField w h xs = true) : (xs.length : Int) = w * h ∧ 1 ≤ w * h ∧ w * h ≤ 64 := by
  simp only [okField, Bool.and_eq_true, beq_iff_eq] at hf
  have := shape_b hf.1.1
  exact ⟨hf.1.2, this.1, this.2.1⟩
theorem c27s {H : Heap} {b : Nat} (hb : H.length = b) {w h w' h' : Int} {v v' v'' : AC} {xs ys rs : List Int} (hr : Rd cx H 1 eI v xs) (hr' : Rd cx H 1 eI v' ys) (hr'' : Rd cx H 1 eI v'' rs) (hn : xs.length ≤ 2 ^ 43) (hn' : ys.length ≤ 2 ^ 43) (hn'' : rs.length ≤ 2 ^ 43) (hc : cond27 w h w' h' xs ys rs = true) :
    ACalls cx 27 [aF w h v, aF w' h' v', .c v''] H (.tu [aF w h (.sl (.l b) 0 xs.length xs.length false), aB true]) (H ++ [bI (copied xs ys rs)]) := by
  subst hb
  simp only [cond27, asked, Bool.and_eq_true, beq_iff_eq] at hc
  obtain ⟨⟨⟨⟨h1, h2⟩, h3⟩, h4⟩, h5, h6⟩ := hc
  obtain ⟨b1', b2', b3'⟩ := okField_bd h1
  obtain ⟨b4', b5', b6'⟩ := okField_bd h2
  simp only [okRegion, Bool.and_eq_true] at h6
  have hwh : w' * h' = w * h := by rw [h3, h4]
  refine acallsN Try.func27 rfl rfl (fun S hS hw => ?_)
  refine aw_seq ?_
  refine aw_region ?_
  refine rr_memL (r_boxL rfl rfl) rfl rfl rfl ?_
  refine rr_memL (r_boxL rfl rfl) rfl rfl rfl ?_
  refine rr_memL (r_allocL rfl rfl) rfl rfl rfl ?_
  refine rr_pure (rp rfl) rfl rfl rfl ?_
  refine rr_nil rfl ?_
  refine then_n ?_
  refine aw_seq ?_
  refine aw_seq ?_
  refine aw_region ?_
  first
    | refine rr_read (r_loadL rfl rfl rfl rfl rfl) rfl rfl rfl ?_
    | refine rr_read (r_loadA rfl rfl rfl (Rd.at (by first | exact hr'' | exact hr') (by assumption)) rfl) rfl rfl rfl ?_
  first
    | refine rr_read (r_loadL rfl rfl rfl rfl rfl) rfl rfl rfl ?_
    | refine rr_read (r_loadA rfl rfl rfl (Rd.at (by first | exact hr'' | exact hr') (by assumption)) rfl) rfl rfl rfl ?_
  refine rr_read (r_callF rfl rfl rfl (c68 _ hr.app hr'.app (by omega) (by omega))) rfl rfl rfl  ?_
  refine rr_pure (rp rfl) rfl rfl rfl ?_
  refine rr_pure (rp rfl) rfl rfl rfl ?_
  refine rr_split rfl (fun g1 => ?_) (fun g1 => ?_)
  · have g1p := g1; try simp only [decide_eq_true_eq, decide_eq_false_iff_not, Bool.not_eq_true', Bool.not_eq_false', bne_iff_ne, ne_eq, bne_eq_false_iff_eq, beq_iff_eq, beq_eq_false_iff_ne, Int.natCast_inj] at g1p
    refine rr_skip rfl rfl g1 ?_
    refine rr_skip rfl rfl g1 ?_
    refine rr_skip rfl rfl g1 ?_
    refine rr_skip rfl rfl g1 ?_
    refine rr_pure (r_pick_t rfl rfl g1 rfl) rfl rfl rfl ?_
    refine rr_nil rfl ?_
    refine then_n ?_
    refine aw_cond rfl (fun _ => ?_) (fun b2 => by first | cases b2 | (rw [b2] at b2; cases b2) | simp_all)
    exfalso; simp_all
  · have g1p := g1; try simp only [decide_eq_true_eq, decide_eq_false_iff_not, Bool.not_eq_true', Bool.not_eq_false', bne_iff_ne, ne_eq, bne_eq_false_iff_eq, beq_iff_eq, beq_eq_false_iff_ne, Int.natCast_inj] at g1p
    first
      | refine rr_read (r_loadL rfl rfl rfl rfl rfl) rfl rfl g1 ?_
      | refine rr_read (r_loadA rfl rfl rfl (Rd.at (by first | exact hr'' | exact hr') (by assumption)) rfl) rfl rfl g1 ?_
    refine rr_pure (rp rfl) rfl rfl g1 ?_
    refine rr_read (r_callF rfl rfl rfl (c69 _ hr.app hr''.app (by omega) (by omega))) rfl rfl g1  ?_
    refine rr_pure (rp rfl) rfl rfl g1 ?_
    refine rr_pure (r_pick_f rfl rfl g1 rfl) rfl rfl rfl ?_
    refine rr_nil rfl ?_
    refine then_n ?_
    refine aw_cond rfl (fun b3 => ?_) (fun b3 => ?_)
    · have b3p := b3; try simp only [decide_eq_true_eq, decide_eq_false_iff_not, Bool.not_eq_true', Bool.not_eq_false', bne_iff_ne, ne_eq, bne_eq_false_iff_eq, beq_iff_eq, beq_eq_false_iff_ne, Int.natCast_inj] at b3p
      exfalso; simp_all [asked, okRegion]
    · have b3p := b3; try simp only [decide_eq_true_eq, decide_eq_false_iff_not, Bool.not_eq_true', Bool.not_eq_false', bne_iff_ne, ne_eq, bne_eq_false_iff_eq, beq_iff_eq, beq_eq_false_iff_ne, Int.natCast_inj] at b3p
      refine aw_skip ?_
      refine then_n ?_
      refine aw_seq ?_
      refine aw_region ?_
      first
        | refine rr_read (r_loadL rfl rfl rfl rfl rfl) rfl rfl rfl ?_
        | refine rr_read (r_loadA rfl rfl rfl (Rd.at (by first | exact hr'' | exact hr') (by assumption)) rfl) rfl rfl rfl ?_
      refine rr_memL (r_callF rfl rfl rfl (c70 List.length_append hr.app hn)) rfl rfl rfl  ?_
      refine rr_memL (r_allocL rfl rfl) rfl rfl rfl ?_
      refine rr_eff (r_storeL rfl rfl rfl rfl rfl rfl rfl (Nat.le_of_ble_eq_true rfl)) rfl rfl rfl (by simp) ?_
      refine rr_nil rfl ?_
      refine then_n ?_
      refine aw_seq ?_
      refine aw_seq ?_
      refine aw_region ?_
      refine rr_pure (rp rfl) rfl rfl rfl ?_
      refine rr_nil rfl ?_
      refine then_n ?_
      refine aw_block ?_
      refine aw_loop (σ := Nat) (fun i => [(2, sC v''), (4, pL (H.length + 1)), (8, pL (H.length + 4)), (9, sI i), (6, pL (H.length + 2))]) (fun i => H ++ [some ⟨(aF w h v).cells, true, 0⟩, some ⟨(aF w' h' v').cells, true, 0⟩, some ⟨(aF 0 0 .ns).cells, true, 0⟩, bI (copied xs ys (rs.take i)), some ⟨(aF w h (.sl (.l (H.length + 3)) 0 xs.length xs.length false)).cells, true, 0⟩]) (fun i => i ≤ rs.length) (fun i => rs.length - i) (0) (by simp) (by repeat (first | exact Sub.nil _ | refine Sub.cons rfl ?_)) rfl ?_
      intro i hi
      refine aw_seq ?_
      refine aw_seq ?_
      refine aw_region ?_
      refine rr_pure (rp rfl) rfl rfl rfl ?_
      refine rr_pure (rp rfl) rfl rfl rfl ?_
      first
        | refine rr_pure (rp rfl) rfl rfl rfl ?_
        | refine rr_pure (r_lenR rfl rfl rfl ⟨_, _, by first | exact hr'' | exact hr'⟩) rfl rfl rfl ?_
      refine rr_pure (rp rfl) rfl rfl rfl ?_
      refine rr_nil rfl ?_
      refine then_n ?_
      refine aw_cond rfl (fun b4 => ?_) (fun b4 => ?_)
      · have b4p := b4; try simp only [decide_eq_true_eq, decide_eq_false_iff_not, Bool.not_eq_true', Bool.not_eq_false', bne_iff_ne, ne_eq, bne_eq_false_iff_eq, beq_iff_eq, beq_eq_false_iff_ne, Int.natCast_inj] at b4p
        obtain ⟨r, hx⟩ := at_lt rs (i := i) (by omega); have hb := rise_bd h6.2 hx; obtain ⟨y, hy⟩ := at_lt ys (i := r.toNat) (by omega)
        refine aw_skip ?_
        refine then_n ?_
        refine aw_seq ?_
        refine aw_block ?_
        refine aw_region_draw ?_
        refine rr_pure (rp rfl) rfl rfl rfl ?_
        first
          | refine rr_read (r_loadL rfl rfl rfl rfl rfl) rfl rfl rfl ?_
          | refine rr_read (r_loadA rfl rfl rfl (Rd.at (by first | exact hr'' | exact hr') (by assumption)) rfl) rfl rfl rfl ?_
        refine rr_pure (rp rfl) rfl rfl rfl ?_
        refine rr_pure (rp rfl) rfl rfl rfl ?_
        refine rr_pure (r_idxR rfl rfl rfl rfl rfl ⟨_, _, by first | exact hr'' | exact hr'⟩ (by omega) (by omega)) rfl rfl rfl ?_
        first
          | refine rr_read (r_loadL rfl rfl rfl rfl rfl) rfl rfl rfl ?_
          | refine rr_read (r_loadA rfl rfl rfl (Rd.at (by first | exact hr'' | exact hr') (by assumption)) rfl) rfl rfl rfl ?_
        refine rr_pure (rp rfl) rfl rfl rfl ?_
        first
          | refine rr_read (r_loadL rfl rfl rfl rfl rfl) rfl rfl rfl ?_
          | refine rr_read (r_loadA rfl rfl rfl (Rd.at (by first | exact hr'' | exact hr') (by assumption)) rfl) rfl rfl rfl ?_
        refine rr_pure (rp rfl) rfl rfl rfl ?_
        refine rr_pure (rp rfl) rfl rfl rfl ?_
        refine rr_pure (r_idxR rfl rfl rfl rfl rfl ⟨_, _, by first | exact hr'' | exact hr'⟩ (by omega) (by omega)) rfl rfl rfl ?_
        first
          | refine rr_read (r_loadL rfl rfl rfl rfl rfl) rfl rfl rfl ?_
          | refine rr_read (r_loadA rfl rfl rfl (Rd.at (by first | exact hr'' | exact hr') (by assumption)) rfl) rfl rfl rfl ?_
        refine rr_pure (r_idxR rfl rfl rfl rfl rfl ⟨_, _, by first | exact hr'' | exact hr'⟩ (by omega) (by omega)) rfl rfl rfl ?_
        first
          | refine rr_read (r_loadL rfl rfl rfl rfl rfl) rfl rfl rfl ?_
          | refine rr_read (r_loadA rfl rfl rfl (Rd.at (by first | exact hr'' | exact hr') (by assumption)) rfl) rfl rfl rfl ?_
        refine rr_pure (r_idx rfl rfl rfl rfl rfl (by omega) (by omega)) rfl rfl rfl ?_
        refine rr_eff (r_storeR (z := 1) rfl rfl rfl rfl rfl rfl lI rfl (by rw [copied_len]; omega)) rfl rfl rfl (by simp) ?_
        refine rr_nil (by kernel_rfl) ?_
        refine inb_n ?_
        refine then_n ?_
        refine aw_region ?_
        refine rr_pure (rp rfl) rfl rfl rfl ?_
        refine rr_pure (r_addn rfl rfl rfl ⟨by omega, by omega⟩) rfl rfl rfl ?_
        refine rr_pure (rp rfl) rfl rfl rfl ?_
        refine rr_nil rfl ?_
        refine then_n ?_
        exact ⟨i + 1, by omega, by omega, (by repeat (first | exact Sub.nil _ | refine Sub.cons rfl ?_)), (by rw [← copied_step hx hy]; rfl)⟩
      · have b4p := b4; try simp only [decide_eq_true_eq, decide_eq_false_iff_not, Bool.not_eq_true', Bool.not_eq_false', bne_iff_ne, ne_eq, bne_eq_false_iff_eq, beq_iff_eq, beq_eq_false_iff_ne, Int.natCast_inj] at b4p
        rw [List.take_of_length_le (by omega)]
        refine aw_exit ?_
        refine then_x ?_
        refine then_x ?_
        refine inb_e ?_
        refine then_n ?_
        refine aw_seq ?_
        refine aw_region ?_
        first
          | refine rr_read (r_loadL rfl rfl rfl rfl rfl) rfl rfl rfl ?_
          | refine rr_read (r_loadA rfl rfl rfl (Rd.at (by first | exact hr'' | exact hr') (by assumption)) rfl) rfl rfl rfl ?_
        refine rr_eff (r_storeL rfl rfl rfl rfl rfl rfl rfl (Nat.le_of_ble_eq_true rfl)) rfl rfl rfl (by simp) ?_
        refine rr_pure (rp rfl) rfl rfl rfl ?_
        refine rr_nil rfl ?_
        refine then_n ?_
        refine aw_ret ?_
        exact fin_mv [3] (resA_cell rfl rfl rfl rfl (resA_tmp rfl resA_nil)) (mv_one rfl (flat_plain pI _)) (by simp [resT, AT.ren, AV.ren, AC.ren, renB_base]; rfl) (by simp [Lo, AT.ids, AV.ids, AC.ids])
end Go.Proofs.Ytjjoigokeicneaa
