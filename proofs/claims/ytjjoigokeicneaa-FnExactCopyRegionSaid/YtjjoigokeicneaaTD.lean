import Derived.Test.YtjjoigokeicneaaTC
namespace Go.Proofs.Ytjjoigokeicneaa
open Go.Aw
set_option maxRecDepth 100000
set_option linter.unusedSimpArgs false
set_option linter.unusedVariables false
/-- A field: its numbers, its slice, and what that reads as. -/
structure FD where
  w : Int
  h : Int
  v : AC
  xs : List Int
def eF (f : FD) : List AC := [.s (.int .i64 f.w), .s (.int .i64 f.h), f.v]
def alikeP (g f : FD) : Bool := okField f.w f.h f.xs && (f.w == g.w && f.h == g.h)
theorem c72 (H : Heap) {s : AC} {fs : List FD} {g : FD} (hr : Rd cx H 3 eF s fs) (hg : fs[0]? = some g) (hd : ∀ f ∈ fs, Rd cx H 1 eI f.v f.xs ∧ f.xs.length ≤ 2 ^ 44) (hn : fs.length ≤ 2 ^ 40) : ACalls cx 72 [.c s] H (Vb (fs.all (alikeP g))) H := by
  have h0 := (List.getElem?_eq_some_iff.1 hg).1
  refine acalls0 Try.func72 rfl rfl (fun S hS hw => ?_)
  refine aw_seq ?_
  refine aw_region ?_
  refine rr_pure (rp rfl) rfl rfl rfl ?_
  refine rr_nil rfl ?_
  refine then_n ?_
  refine aw_seq ?_
  refine aw_seq ?_
  refine aw_region ?_
  refine rr_pure (rp rfl) rfl rfl rfl ?_
  first
    | refine rr_pure (rp rfl) rfl rfl rfl ?_
    | refine rr_pure (r_lenR rfl rfl rfl ⟨_, _, hr⟩) rfl rfl rfl ?_
  refine rr_pure (rp rfl) rfl rfl rfl ?_
  refine rr_nil rfl ?_
  refine then_n ?_
  refine aw_block ?_
  refine aw_loop (σ := Nat) (fun i => [(0, sC s), (5, sC s), (6, sI fs.length), (7, sI i)]) (fun i => H ++ (fs.take i).map (fun f => some ⟨eF f, true, 0⟩)) (fun i => i ≤ fs.length ∧ (fs.take i).all (alikeP g) = true) (fun i => fs.length - i) (0) (by simp) (by repeat (first | exact Sub.nil _ | refine Sub.cons rfl ?_)) rfl ?_
  intro i hi
  refine aw_seq ?_
  refine aw_region ?_
  refine rr_pure (rp rfl) rfl rfl rfl ?_
  refine rr_nil rfl ?_
  refine then_n ?_
  refine aw_seq ?_
  refine aw_cond rfl (fun b1 => ?_) (fun b1 => ?_)
  · have b1p := b1; try simp only [decide_eq_true_eq, decide_eq_false_iff_not, Bool.not_eq_true', Bool.not_eq_false', bne_iff_ne, ne_eq, bne_eq_false_iff_eq, beq_iff_eq, beq_eq_false_iff_ne, Int.natCast_inj] at b1p
    obtain ⟨x, hx⟩ := at_lt fs (i := i) (by omega)
    obtain ⟨hd1, hd2⟩ := hd x (List.mem_of_getElem? hx)
    refine aw_skip ?_
    refine then_n ?_
    refine aw_seq ?_
    refine aw_block ?_
    refine aw_seq ?_
    refine aw_region ?_
    refine rr_pure (r_idxR rfl rfl rfl rfl rfl ⟨_, _, hr⟩ (by omega) (by omega)) rfl rfl rfl ?_
    first
      | refine rr_read (r_loadL rfl rfl rfl rfl rfl) rfl rfl rfl ?_
      | refine rr_read (r_loadA rfl rfl rfl (Rd.at hr (by assumption)) rfl) rfl rfl rfl ?_
    refine rr_memL (r_allocL rfl rfl) rfl rfl rfl ?_
    refine rr_eff (r_storeLast rfl rfl rfl rfl rfl rfl (Nat.le_of_ble_eq_true rfl)) rfl rfl rfl (by simp) ?_
    refine rr_nil rfl ?_
    refine then_n ?_
    refine aw_seq ?_
    refine aw_region_draw ?_
    refine rr_read (r_loadL rfl rfl rfl (ldL_last rfl) rfl) rfl rfl rfl ?_
    refine rr_read (r_callF rfl rfl rfl (c98 _ hd1.app hd2)) rfl rfl rfl  ?_
    refine rr_pure (rp rfl) rfl rfl rfl ?_
    refine rr_pure (rp rfl) rfl rfl rfl ?_
    refine rr_split rfl (fun g2 => ?_) (fun g2 => ?_)
    · have g2p := g2; try simp only [decide_eq_true_eq, decide_eq_false_iff_not, Bool.not_eq_true', Bool.not_eq_false', bne_iff_ne, ne_eq, bne_eq_false_iff_eq, beq_iff_eq, beq_eq_false_iff_ne, Int.natCast_inj] at g2p
      refine rr_skip rfl rfl g2 ?_
      refine rr_skip rfl rfl g2 ?_
      refine rr_skip rfl rfl g2 ?_
      refine rr_skip rfl rfl g2 ?_
      refine rr_skip rfl rfl g2 ?_
      refine rr_skip rfl rfl g2 ?_
      refine rr_pure (r_pick_t rfl rfl g2 rfl) rfl rfl rfl ?_
      refine rr_nil (by kernel_rfl) ?_
      refine then_n ?_
      refine aw_cond rfl (fun _ => ?_) (fun b3 => by first | cases b3 | (rw [b3] at b3; cases b3) | simp_all)
      refine aw_seq ?_
      refine aw_region ?_
      refine rr_pure (rp rfl) rfl rfl rfl ?_
      refine rr_nil rfl ?_
      refine then_n ?_
      refine aw_ret ?_
      refine inb_r ?_
      refine then_r ?_
      refine then_r ?_
      refine inb_r ?_
      refine then_r ?_
      exact fin_b rfl (all_not hx (by unfold alikeP; simp_all)).symm
    · have g2p := g2; try simp only [decide_eq_true_eq, decide_eq_false_iff_not, Bool.not_eq_true', Bool.not_eq_false', bne_iff_ne, ne_eq, bne_eq_false_iff_eq, beq_iff_eq, beq_eq_false_iff_ne, Int.natCast_inj] at g2p
      refine rr_read (r_loadL rfl rfl rfl (ldL_last rfl) rfl) rfl rfl g2 ?_
      refine rr_pure (rp rfl) rfl rfl g2 ?_
      refine rr_pure (r_idxR rfl rfl rfl rfl rfl ⟨_, _, hr⟩ (by omega) (by omega)) rfl rfl g2 ?_
      refine rr_read (r_loadA rfl rfl rfl (Rd.at hr (i := 0) hg) rfl) rfl rfl g2 ?_
      refine rr_read (r_callF rfl rfl rfl (c100 _)) rfl rfl g2  ?_
      refine rr_pure (rp rfl) rfl rfl g2 ?_
      refine rr_pure (r_pick_f rfl rfl g2 rfl) rfl rfl rfl ?_
      refine rr_nil (by kernel_rfl) ?_
      refine then_n ?_
      refine aw_cond rfl (fun b4 => ?_) (fun b4 => ?_)
      · have b4p := b4; try simp only [decide_eq_true_eq, decide_eq_false_iff_not, Bool.not_eq_true', Bool.not_eq_false', bne_iff_ne, ne_eq, bne_eq_false_iff_eq, beq_iff_eq, beq_eq_false_iff_ne, Int.natCast_inj] at b4p
        refine aw_seq ?_
        refine aw_region ?_
        refine rr_pure (rp rfl) rfl rfl rfl ?_
        refine rr_nil rfl ?_
        refine then_n ?_
        refine aw_ret ?_
        refine inb_r ?_
        refine then_r ?_
        refine then_r ?_
        refine inb_r ?_
        refine then_r ?_
        exact fin_b rfl (all_not hx (by unfold alikeP; simp_all)).symm
      · have b4p := b4; try simp only [decide_eq_true_eq, decide_eq_false_iff_not, Bool.not_eq_true', Bool.not_eq_false', bne_iff_ne, ne_eq, bne_eq_false_iff_eq, beq_iff_eq, beq_eq_false_iff_ne, Int.natCast_inj] at b4p
        refine aw_skip ?_
        refine inb_n ?_
        refine then_n ?_
        refine aw_region ?_
        refine rr_pure (r_addn rfl rfl rfl ⟨by omega, by omega⟩) rfl rfl rfl ?_
        refine rr_pure (rp rfl) rfl rfl rfl ?_
        refine rr_nil rfl ?_
        refine then_n ?_
        exact ⟨i + 1, ⟨by omega, all_take hi.2 hx (by unfold alikeP; simp_all)⟩, by omega, (by repeat (first | exact Sub.nil _ | refine Sub.cons rfl ?_)), (by rw [List.take_add_one, hx, List.map_append]; rfl)⟩
  · have b1p := b1; try simp only [decide_eq_true_eq, decide_eq_false_iff_not, Bool.not_eq_true', Bool.not_eq_false', bne_iff_ne, ne_eq, bne_eq_false_iff_eq, beq_iff_eq, beq_eq_false_iff_ne, Int.natCast_inj] at b1p
    rw [List.take_of_length_le (by omega)] at hi
    refine aw_exit ?_
    refine then_x ?_
    refine then_x ?_
    refine inb_e ?_
    refine then_n ?_
    refine aw_seq ?_
    refine aw_region ?_
    refine rr_pure (rp rfl) rfl rfl rfl ?_
    refine rr_nil rfl ?_
    refine then_n ?_
    refine aw_ret ?_
    exact fin_b rfl hi.2.symm
theorem c74 (H : Heap) {bd : Bid} {w h i x y : Int} {v : AC} {ys : List Int} (hl : ld cx H bd 0 3 = some [.s (.int .i64 w), .s (.int .i64 h), v]) (hr : Rd cx H 1 eI v ys) (hi : 0 ≤ i) (hy : ys[i.toNat]? = some y) : ACalls cx 74 ([aI i, aI x] ++ capt [(bd, 0)]) H (Vi .i64 y) H := by
  have hl2 : ld cx H bd (0 + 2) 1 = some [v] := ld_sub hl (by decide)
  have hlt := (List.getElem?_eq_some_iff.1 hy).1
  refine acalls0 Try.func74 rfl rfl (fun S hS hw => ?_)
  refine aw_seq ?_
  refine aw_region ?_
  refine rr_pure (rp rfl) rfl rfl rfl ?_
  refine rr_nil rfl ?_
  refine then_n ?_
  refine aw_seq ?_
  refine aw_region ?_
  refine rr_pure (rp rfl) rfl rfl rfl ?_
  refine rr_read (r_loadA rfl rfl rfl hl2 rfl) rfl rfl rfl ?_
  refine rr_pure (rp rfl) rfl rfl rfl ?_
  refine rr_pure (r_idxR rfl rfl rfl rfl rfl ⟨_, _, hr⟩ (by omega) (by omega)) rfl rfl rfl ?_
  first
    | refine rr_read (r_loadL rfl rfl rfl rfl rfl) rfl rfl rfl ?_
    | refine rr_read (r_loadA rfl rfl rfl (Rd.at hr (by assumption)) rfl) rfl rfl rfl ?_
  refine rr_pure (rp rfl) rfl rfl rfl ?_
  refine rr_nil rfl ?_
  refine then_n ?_
  refine aw_ret ?_
  exact fin_i rfl rfl
def edited (φ : Int → Int → Int) (xs rs : List Int) : List Int := rs.foldl (fun acc i => acc.set i.toNat (φ i (xs.getD i.toNat 0))) xs
theorem edited_len (φ : Int → Int → Int) (xs rs : List Int) : (edited φ xs rs).length = xs.length := by
  unfold edited
  generalize hz : xs = zs
  have : ∀ (rs acc : List Int), (rs.foldl (fun acc i => acc.set i.toNat (φ i (zs.getD i.toNat 0))) acc).length = acc.length := by
    intro rs
    induction rs with
    | nil => intro acc; rfl
    | cons r rs ih => intro acc; simp only [List.foldl_cons]; rw [ih]; simp
  exact this rs zs
theorem edited_step {φ : Int → Int → Int} {xs rs : List Int} {i : Nat} {r x : Int} (hr : rs[i]? = some r) (hx : xs[r.toNat]? = some x) : (edited φ xs (rs.take i)).set r.toNat (φ r x) = edited φ xs (rs.take (i + 1)) := by
  unfold edited
  rw [List.take_add_one, hr, List.foldl_append]
  simp only [Option.toList_some, List.foldl_cons, List.foldl_nil]
  rw [List.getD_eq_getElem?_getD, hx]; rfl
theorem c73t {H : Heap} {b : Nat} (hb : H.length = b) {w h : Int} {bd : Bid} {off n lo : Nat} {ex : Bool} {v' : AC} {xs rs : List Int} {f : Nat} {ps : List (Bid × Nat)} {φ : Int → Int → Int} (hf : cx.fn f = true) (hp : ∀ (L : Heap) (i x : Int), xs[i.toNat]? = some x → 0 ≤ i → ACalls cx f ([aI i, aI x] ++ capt ps) (H ++ L) (Vi .i64 (φ i x)) (H ++ L))
    (hr : Rd cx H 1 eI (.sl bd off n lo ex) xs) (hr' : Rd cx H 1 eI v' rs) (hn : xs.length ≤ 2 ^ 43) (hn' : rs.length ≤ 2 ^ 43) (hrs : ∀ (i : Nat) (r : Int), rs[i]? = some r → 0 ≤ r ∧ r < xs.length) (hok : okField w h (edited φ xs rs) = true) :
    ACalls cx 73 [aF w h (.sl bd off n lo ex), .c v', .c (.fn f ps)] H (.tu [aF w h (.sl (.l b) 0 xs.length xs.length false), aB true]) (H ++ [bI (edited φ xs rs)]) := by
  subst hb
  refine acallsN Try.func73 rfl rfl (fun S hS hw => ?_)
  refine aw_seq ?_
  refine aw_region ?_
  refine rr_memL (r_boxL rfl rfl) rfl rfl rfl ?_
  refine rr_memL (r_allocL rfl rfl) rfl rfl rfl ?_
  refine rr_pure (rp rfl) rfl rfl rfl ?_
  refine rr_nil rfl ?_
  refine then_n ?_
  refine aw_seq ?_
  refine aw_region ?_
  first
    | refine rr_read (r_loadL rfl rfl rfl rfl rfl) rfl rfl rfl ?_
    | refine rr_read (r_loadA rfl rfl rfl (Rd.at (by first | exact hr' | exact hr) (by assumption)) rfl) rfl rfl rfl ?_
  refine rr_memL (r_callF rfl rfl rfl (c101 List.length_append hr.app hn)) rfl rfl rfl  ?_
  refine rr_memL (r_allocL rfl rfl) rfl rfl rfl ?_
  refine rr_eff (r_storeL rfl rfl rfl rfl rfl rfl rfl (Nat.le_of_ble_eq_true rfl)) rfl rfl rfl (by simp) ?_
  refine rr_nil rfl ?_
  refine then_n ?_
  refine aw_seq ?_
  refine aw_seq ?_
  refine aw_region ?_
  refine rr_pure (rp rfl) rfl rfl rfl ?_
  first
    | refine rr_pure (rp rfl) rfl rfl rfl ?_
    | refine rr_pure (r_lenR rfl rfl rfl ⟨_, _, by first | exact hr' | exact hr⟩) rfl rfl rfl ?_
  refine rr_pure (rp rfl) rfl rfl rfl ?_
  refine rr_nil rfl ?_
  refine then_n ?_
  refine aw_block ?_
  refine aw_loop (σ := Nat) (fun i => [(2, sC (.fn f ps)), (3, pL (H.length + 0)), (6, pL (H.length + 1)), (8, pL (H.length + 3)), (13, sC v'), (14, sI rs.length), (15, sI i)]) (fun i => H ++ [some ⟨(aF w h (.sl bd off n lo ex)).cells, true, 0⟩, some ⟨(aF 0 0 .ns).cells, true, 0⟩, bI (edited φ xs (rs.take i)), some ⟨(aF w h (.sl (.l (H.length + 2)) 0 xs.length xs.length false)).cells, true, 0⟩]) (fun i => i ≤ rs.length) (fun i => rs.length - i) (0) (by simp) (by repeat (first | exact Sub.nil _ | refine Sub.cons rfl ?_)) rfl ?_
  intro i hi
  refine aw_seq ?_
  refine aw_region ?_
  refine rr_pure (rp rfl) rfl rfl rfl ?_
  refine rr_nil rfl ?_
  refine then_n ?_
  refine aw_seq ?_
  refine aw_cond rfl (fun b1 => ?_) (fun b1 => ?_)
  · have b1p := b1; try simp only [decide_eq_true_eq, decide_eq_false_iff_not, Bool.not_eq_true', Bool.not_eq_false', bne_iff_ne, ne_eq, bne_eq_false_iff_eq, beq_iff_eq, beq_eq_false_iff_ne, Int.natCast_inj] at b1p
    obtain ⟨r, hx⟩ := at_lt rs (i := i) (by omega)
    have hb := hrs i r hx
    obtain ⟨y, hy⟩ := at_lt xs (i := r.toNat) (by omega)
    refine aw_skip ?_
    refine then_n ?_
    refine aw_seq ?_
    refine aw_block ?_
    refine aw_seq ?_
    refine aw_region ?_
    refine rr_pure (r_idxR rfl rfl rfl rfl rfl ⟨_, _, by first | exact hr' | exact hr⟩ (by omega) (by omega)) rfl rfl rfl ?_
    first
      | refine rr_read (r_loadL rfl rfl rfl rfl rfl) rfl rfl rfl ?_
      | refine rr_read (r_loadA rfl rfl rfl (Rd.at (by first | exact hr' | exact hr) (by assumption)) rfl) rfl rfl rfl ?_
    refine rr_pure (rp rfl) rfl rfl rfl ?_
    refine rr_nil rfl ?_
    refine then_n ?_
    refine aw_region_draw ?_
    refine rr_pure (rp rfl) rfl rfl rfl ?_
    first
      | refine rr_read (r_loadL rfl rfl rfl rfl rfl) rfl rfl rfl ?_
      | refine rr_read (r_loadA rfl rfl rfl (Rd.at (by first | exact hr' | exact hr) (by assumption)) rfl) rfl rfl rfl ?_
    refine rr_pure (rp rfl) rfl rfl rfl ?_
    refine rr_pure (rp rfl) rfl rfl rfl ?_
    refine rr_pure (rp rfl) rfl rfl rfl ?_
    refine rr_pure (rp rfl) rfl rfl rfl ?_
    first
      | refine rr_read (r_loadL rfl rfl rfl rfl rfl) rfl rfl rfl ?_
      | refine rr_read (r_loadA rfl rfl rfl (Rd.at (by first | exact hr' | exact hr) (by assumption)) rfl) rfl rfl rfl ?_
    refine rr_pure (rp rfl) rfl rfl rfl ?_
    refine rr_pure (r_idxR rfl rfl rfl rfl rfl ⟨_, _, by first | exact hr' | exact hr⟩ (by omega) (by omega)) rfl rfl rfl ?_
    first
      | refine rr_read (r_loadL rfl rfl rfl rfl rfl) rfl rfl rfl ?_
      | refine rr_read (r_loadA rfl rfl rfl (Rd.at (by first | exact hr' | exact hr) (by assumption)) rfl) rfl rfl rfl ?_
    refine rr_read (r_callV rfl rfl rfl hf (hp _ _ _ hy hb.1)) rfl rfl rfl ?_
    refine rr_pure (r_idx rfl rfl rfl rfl rfl (by omega) (by omega)) rfl rfl rfl ?_
    refine rr_eff (r_storeR (z := 1) rfl rfl rfl rfl rfl rfl lI rfl (by rw [edited_len]; omega)) rfl rfl rfl (by simp) ?_
    refine rr_nil (by kernel_rfl) ?_
    refine inb_n ?_
    refine then_n ?_
    refine aw_region ?_
    refine rr_pure (r_addn rfl rfl rfl ⟨by omega, by omega⟩) rfl rfl rfl ?_
    refine rr_pure (rp rfl) rfl rfl rfl ?_
    refine rr_nil rfl ?_
    refine then_n ?_
    exact ⟨i + 1, by omega, by omega, (by repeat (first | exact Sub.nil _ | refine Sub.cons rfl ?_)), (by rw [← edited_step hx hy]; rfl)⟩
  · have b1p := b1; try simp only [decide_eq_true_eq, decide_eq_false_iff_not, Bool.not_eq_true', Bool.not_eq_false', bne_iff_ne, ne_eq, bne_eq_false_iff_eq, beq_iff_eq, beq_eq_false_iff_ne, Int.natCast_inj] at b1p
    rw [List.take_of_length_le (by omega)]
    refine aw_exit ?_
    refine then_x ?_
    refine then_x ?_
    refine inb_e ?_
    refine then_n ?_
    refine aw_seq ?_
    refine aw_region ?_
    first
      | refine rr_read (r_loadL rfl rfl rfl rfl rfl) rfl rfl rfl ?_
      | refine rr_read (r_loadA rfl rfl rfl (Rd.at (by first | exact hr' | exact hr) (by assumption)) rfl) rfl rfl rfl ?_
    refine rr_read (r_callF rfl rfl rfl (c102t _ (Rd.own (j := 2) lI rfl (edited_len φ xs rs).symm) (by rw [edited_len]; omega) hok)) rfl rfl rfl  ?_
    refine rr_pure (rp rfl) rfl rfl rfl ?_
    refine rr_pure (rp rfl) rfl rfl rfl ?_
    refine rr_eff (r_storeL rfl rfl rfl rfl rfl rfl rfl (Nat.le_of_ble_eq_true rfl)) rfl rfl rfl (by simp) ?_
    refine rr_pure (rp rfl) rfl rfl rfl ?_
    refine rr_nil rfl ?_
    refine then_n ?_
    refine aw_ret ?_
    exact fin_mv [2] (resA_cell rfl rfl rfl rfl (resA_tmp rfl resA_nil)) (mv_one rfl (flat_plain pI _)) (by simp [resT, AT.ren, AV.ren, AC.ren, renB_base]; rfl) (by simp [Lo, AT.ids, AV.ids, AC.ids])
def fd2 (w h w' h' : Int) (v v' : AC) (xs ys : List Int) : List FD := [⟨w, h, v, xs⟩, ⟨w', h', v', ys⟩]
def cond29 (w h w' h' : Int) (xs ys rs : List Int) : Bool := asked w h xs rs && (okField w h xs && (okField w' h' ys && (w' == w && h' == h)))
theorem alike2 {w h w' h' : Int} {v v' : AC} {xs ys : List Int} : (fd2 w h w' h' v v' xs ys).all (alikeP ⟨w, h, v, xs⟩) = (okField w h xs && (okField w' h' ys && (w' == w && h' == h))) := by
  simp [fd2, alikeP]
theorem hd2 {H : Heap} {w h w' h' : Int} {v v' : AC} {xs ys : List Int} (hr : Rd cx H 1 eI v xs) (hr' : Rd cx H 1 eI v' ys) (hn : xs.length ≤ 2 ^ 43) (hn' : ys.length ≤ 2 ^ 43) : ∀ f ∈ fd2 w h w' h' v v' xs ys, Rd cx H 1 eI f.v f.xs ∧ f.xs.length ≤ 2 ^ 44 := by
  intro f hf
  simp only [fd2, List.mem_cons, List.not_mem_nil, or_false] at hf
  rcases hf with rfl | rfl
  · exact ⟨hr, by dsimp only; omega⟩
  · exact ⟨hr', by dsimp only; omega⟩
theorem c29f (H : Heap) {w h w' h' : Int} {v v' v'' : AC} {xs ys rs : List Int} (hr : Rd cx H 1 eI v xs) (hr' : Rd cx H 1 eI v' ys) (hr'' : Rd cx H 1 eI v'' rs) (hn : xs.length ≤ 2 ^ 43) (hn' : ys.length ≤ 2 ^ 43) (hn'' : rs.length ≤ 2 ^ 43) (hc : cond29 w h w' h' xs ys rs = false) :
    ACalls cx 29 [aF w h v, aF w' h' v', .c v''] H (.tu [aF 0 0 .ns, aB false]) H := by
  refine acalls0 Try.func29 rfl rfl (fun S hS hw => ?_)
  refine aw_seq ?_
  refine aw_region ?_
  refine rr_memL (r_boxL rfl rfl) rfl rfl rfl ?_
  refine rr_memL (r_boxL rfl rfl) rfl rfl rfl ?_
  refine rr_memL (r_allocL rfl rfl) rfl rfl rfl ?_
  refine rr_pure (rp rfl) rfl rfl rfl ?_
  refine rr_nil rfl ?_
  refine then_n ?_
  refine aw_seq ?_
  refine aw_seq ?_
  refine aw_region ?_
  first
    | refine rr_read (r_loadL rfl rfl rfl rfl rfl) rfl rfl rfl ?_
    | refine rr_read (r_loadA rfl rfl rfl (Rd.at (by assumption) (by assumption)) rfl) rfl rfl rfl ?_
  refine rr_pure (rp rfl) rfl rfl rfl ?_
  refine rr_read (r_callF rfl rfl rfl (c71 _ hr.app hr''.app (by omega) (by omega))) rfl rfl rfl  ?_
  refine rr_pure (rp rfl) rfl rfl rfl ?_
  refine rr_pure (rp rfl) rfl rfl rfl ?_
  refine rr_split rfl (fun g1 => ?_) (fun g1 => ?_)
  · have g1p := g1; try simp only [decide_eq_true_eq, decide_eq_false_iff_not, Bool.not_eq_true', Bool.not_eq_false', bne_iff_ne, ne_eq, bne_eq_false_iff_eq, beq_iff_eq, beq_eq_false_iff_ne, Int.natCast_inj] at g1p
    refine rr_skip rfl rfl g1 ?_
    refine rr_skip rfl rfl g1 ?_
    refine rr_skip rfl rfl g1 ?_
    refine rr_skip rfl rfl g1 ?_
    refine rr_skip rfl rfl g1 ?_
    refine rr_pure (r_pick_t rfl rfl g1 rfl) rfl rfl rfl ?_
    refine rr_nil rfl ?_
    refine then_n ?_
    refine aw_cond rfl (fun _ => ?_) (fun b2 => by first | cases b2 | (rw [b2] at b2; cases b2) | simp_all)
    refine aw_seq ?_
    refine aw_region ?_
    refine rr_pure (rp rfl) rfl rfl rfl ?_
    refine rr_eff (r_storeL rfl rfl rfl rfl rfl rfl rfl (Nat.le_of_ble_eq_true rfl)) rfl rfl rfl (by simp) ?_
    refine rr_pure (rp rfl) rfl rfl rfl ?_
    refine rr_nil rfl ?_
    refine then_n ?_
    refine aw_ret ?_
    refine then_r ?_
    exact fin_r (resA_cell rfl rfl rfl rfl (resA_tmp rfl resA_nil)) rfl rfl rfl
  · have g1p := g1; try simp only [decide_eq_true_eq, decide_eq_false_iff_not, Bool.not_eq_true', Bool.not_eq_false', bne_iff_ne, ne_eq, bne_eq_false_iff_eq, beq_iff_eq, beq_eq_false_iff_ne, Int.natCast_inj] at g1p
    first
      | refine rr_read (r_loadL rfl rfl rfl rfl rfl) rfl rfl g1 ?_
      | refine rr_read (r_loadA rfl rfl rfl (Rd.at (by assumption) (by assumption)) rfl) rfl rfl g1 ?_
    first
      | refine rr_read (r_loadL rfl rfl rfl rfl rfl) rfl rfl g1 ?_
      | refine rr_read (r_loadA rfl rfl rfl (Rd.at (by assumption) (by assumption)) rfl) rfl rfl g1 ?_
    refine rr_memL (r_litL rfl rfl rfl rfl rfl rfl rfl) rfl rfl g1 ?_
    refine rr_read (r_callF rfl rfl rfl (c72 _ (fs := fd2 w h w' h' v v' xs ys) (Rd.own (j := 3) (fun _ => rfl) rfl rfl) rfl (hd2 hr.app hr'.app hn hn') (by simp [fd2]))) rfl rfl g1  ?_
    refine rr_pure (rp rfl) rfl rfl g1 ?_
    refine rr_pure (r_pick_f rfl rfl g1 rfl) rfl rfl rfl ?_
    refine rr_nil rfl ?_
    refine then_n ?_
    refine aw_cond rfl (fun b3 => ?_) (fun b3 => ?_)
    · have b3p := b3; try simp only [decide_eq_true_eq, decide_eq_false_iff_not, Bool.not_eq_true', Bool.not_eq_false', bne_iff_ne, ne_eq, bne_eq_false_iff_eq, beq_iff_eq, beq_eq_false_iff_ne, Int.natCast_inj] at b3p
      refine aw_seq ?_
      refine aw_region ?_
      refine rr_pure (rp rfl) rfl rfl rfl ?_
      refine rr_eff (r_storeL rfl rfl rfl rfl rfl rfl rfl (Nat.le_of_ble_eq_true rfl)) rfl rfl rfl (by simp) ?_
      refine rr_pure (rp rfl) rfl rfl rfl ?_
      refine rr_nil rfl ?_
      refine then_n ?_
      refine aw_ret ?_
      refine then_r ?_
      exact fin_r (resA_cell rfl rfl rfl rfl (resA_tmp rfl resA_nil)) rfl rfl rfl
    · have b3p := b3; try simp only [decide_eq_true_eq, decide_eq_false_iff_not, Bool.not_eq_true', Bool.not_eq_false', bne_iff_ne, ne_eq, bne_eq_false_iff_eq, beq_iff_eq, beq_eq_false_iff_ne, Int.natCast_inj] at b3p
      exfalso; simp only [alike2] at b3p; simp_all [cond29]
theorem copied_ok {w h : Int} {xs ys rs : List Int} (h1 : okField w h xs = true) (h2 : okField w h ys = true) (hb : ∀ r ∈ rs, 0 ≤ r ∧ r < ys.length) : okField w h (copied xs ys rs) = true := by
  have h1' := h1
  simp only [okField, Bool.and_eq_true, beq_iff_eq, List.all_eq_true] at h1 h2 ⊢
  refine ⟨⟨h1.1.1, by rw [copied_len]; exact h1.1.2⟩, ?_⟩
  have key : ∀ (rs acc : List Int), (∀ r ∈ rs, 0 ≤ r ∧ r < ys.length) → (∀ x ∈ acc, okVal x = true) → ∀ x ∈ rs.foldl (fun acc i => acc.set i.toNat (ys.getD i.toNat 0)) acc, okVal x = true := by
    intro rs
    induction rs with
    | nil => intro acc _ h; exact h
    | cons r rs ih =>
      intro acc hb h
      refine ih _ (fun r' hr' => hb r' (List.mem_cons_of_mem _ hr')) (fun x hx => ?_)
      rcases List.mem_or_eq_of_mem_set hx with hx | hx
      · exact h x hx
      · subst hx
        have := hb r List.mem_cons_self
        rw [List.getD_eq_getElem?_getD, List.getElem?_eq_getElem (by omega)]
        exact h2.2 _ (List.getElem_mem _)
  exact key rs xs hb h1.2
theorem get_len {xs ys : List Int} {i : Nat} {x : Int} (hl : (xs.length : Int) = ys.length) (h : xs[i]? = some x) : ys[i]? = some (ys.getD i 0) := by
  have := (List.getElem?_eq_some_iff.1 h).1
  rw [List.getD_eq_getElem?_getD, List.getElem?_eq_getElem (by omega)]; rfl
theorem c29s {H : Heap} {b : Nat} (hb : H.length = b) {w h w' h' : Int} {bd : Bid} {off n lo : Nat} {ex : Bool} {v' v'' : AC} {xs ys rs : List Int} (hr : Rd cx H 1 eI (.sl bd off n lo ex) xs) (hr' : Rd cx H 1 eI v' ys) (hr'' : Rd cx H 1 eI v'' rs) (hn : xs.length ≤ 2 ^ 43) (hn' : ys.length ≤ 2 ^ 43) (hn'' : rs.length ≤ 2 ^ 43) (hc : cond29 w h w' h' xs ys rs = true) :
    ACalls cx 29 [aF w h (.sl bd off n lo ex), aF w' h' v', .c v''] H (.tu [aF w h (.sl (.l b) 0 xs.length xs.length false), aB true]) (H ++ [bI (copied xs ys rs)]) := by
  subst hb
  have hc' := hc
  simp only [cond29, asked, okRegion, Bool.and_eq_true, beq_iff_eq] at hc
  obtain ⟨⟨h1, h2, h3⟩, _, h4, h5, h6⟩ := hc
  subst h5; subst h6
  obtain ⟨e1, e2, e3⟩ := okField_bd h1
  obtain ⟨e4, _, _⟩ := okField_bd h4
  have hbd : ∀ (i : Nat) (r : Int), rs[i]? = some r → 0 ≤ r ∧ r < xs.length := fun i r hx => by have := rise_bd h3 hx; omega
  refine acallsN Try.func29 rfl rfl (fun S hS hw => ?_)
  refine aw_seq ?_
  refine aw_region ?_
  refine rr_memL (r_boxL rfl rfl) rfl rfl rfl ?_
  refine rr_memL (r_boxL rfl rfl) rfl rfl rfl ?_
  refine rr_memL (r_allocL rfl rfl) rfl rfl rfl ?_
  refine rr_pure (rp rfl) rfl rfl rfl ?_
  refine rr_nil rfl ?_
  refine then_n ?_
  refine aw_seq ?_
  refine aw_seq ?_
  refine aw_region ?_
  first
    | refine rr_read (r_loadL rfl rfl rfl rfl rfl) rfl rfl rfl ?_
    | refine rr_read (r_loadA rfl rfl rfl (Rd.at (by assumption) (by assumption)) rfl) rfl rfl rfl ?_
  refine rr_pure (rp rfl) rfl rfl rfl ?_
  refine rr_read (r_callF rfl rfl rfl (c71 _ hr.app hr''.app (by omega) (by omega))) rfl rfl rfl  ?_
  refine rr_pure (rp rfl) rfl rfl rfl ?_
  refine rr_pure (rp rfl) rfl rfl rfl ?_
  refine rr_split rfl (fun g1 => ?_) (fun g1 => ?_)
  · have g1p := g1; try simp only [decide_eq_true_eq, decide_eq_false_iff_not, Bool.not_eq_true', Bool.not_eq_false', bne_iff_ne, ne_eq, bne_eq_false_iff_eq, beq_iff_eq, beq_eq_false_iff_ne, Int.natCast_inj] at g1p
    refine rr_skip rfl rfl g1 ?_
    refine rr_skip rfl rfl g1 ?_
    refine rr_skip rfl rfl g1 ?_
    refine rr_skip rfl rfl g1 ?_
    refine rr_skip rfl rfl g1 ?_
    refine rr_pure (r_pick_t rfl rfl g1 rfl) rfl rfl rfl ?_
    refine rr_nil rfl ?_
    refine then_n ?_
    refine aw_cond rfl (fun _ => ?_) (fun b2 => by first | cases b2 | (rw [b2] at b2; cases b2) | simp_all)
    exfalso; simp_all [cond29]
  · have g1p := g1; try simp only [decide_eq_true_eq, decide_eq_false_iff_not, Bool.not_eq_true', Bool.not_eq_false', bne_iff_ne, ne_eq, bne_eq_false_iff_eq, beq_iff_eq, beq_eq_false_iff_ne, Int.natCast_inj] at g1p
    first
      | refine rr_read (r_loadL rfl rfl rfl rfl rfl) rfl rfl g1 ?_
      | refine rr_read (r_loadA rfl rfl rfl (Rd.at (by assumption) (by assumption)) rfl) rfl rfl g1 ?_
    first
      | refine rr_read (r_loadL rfl rfl rfl rfl rfl) rfl rfl g1 ?_
      | refine rr_read (r_loadA rfl rfl rfl (Rd.at (by assumption) (by assumption)) rfl) rfl rfl g1 ?_
    refine rr_memL (r_litL rfl rfl rfl rfl rfl rfl rfl) rfl rfl g1 ?_
    refine rr_read (r_callF rfl rfl rfl (c72 _ (fs := fd2 w' h' w' h' (.sl bd off n lo ex) v' xs ys) (Rd.own (j := 3) (fun _ => rfl) rfl rfl) rfl (hd2 hr.app hr'.app hn hn') (by simp [fd2]))) rfl rfl g1  ?_
    refine rr_pure (rp rfl) rfl rfl g1 ?_
    refine rr_pure (r_pick_f rfl rfl g1 rfl) rfl rfl rfl ?_
    refine rr_nil rfl ?_
    refine then_n ?_
    refine aw_cond rfl (fun b3 => ?_) (fun b3 => ?_)
    · have b3p := b3; try simp only [decide_eq_true_eq, decide_eq_false_iff_not, Bool.not_eq_true', Bool.not_eq_false', bne_iff_ne, ne_eq, bne_eq_false_iff_eq, beq_iff_eq, beq_eq_false_iff_ne, Int.natCast_inj] at b3p
      exfalso; simp only [alike2] at b3p; simp_all [cond29]
    · have b3p := b3; try simp only [decide_eq_true_eq, decide_eq_false_iff_not, Bool.not_eq_true', Bool.not_eq_false', bne_iff_ne, ne_eq, bne_eq_false_iff_eq, beq_iff_eq, beq_eq_false_iff_ne, Int.natCast_inj] at b3p
      refine aw_skip ?_
      refine then_n ?_
      refine aw_seq ?_
      refine aw_region ?_
      first
        | refine rr_read (r_loadL rfl rfl rfl rfl rfl) rfl rfl rfl ?_
        | refine rr_read (r_loadA rfl rfl rfl (Rd.at (by assumption) (by assumption)) rfl) rfl rfl rfl ?_
      refine rr_pure (rp rfl) rfl rfl rfl ?_
      refine rr_pure (r_func (ps := [(.l (H.length + 1), 0)]) rfl rfl) rfl rfl rfl ?_
      refine rr_memL (r_callF rfl rfl rfl (c73t List.length_append (φ := fun i _ => ys.getD i.toNat 0) rfl (fun L i x hx h0 => c74 _ (w := w') (h := h') (ld_app (ld_own (j := 1) rfl)) (hr'.app.app) h0 (get_len (by omega) hx)) hr.app hr''.app hn hn'' hbd (copied_ok h1 h4 (fun r hm => by obtain ⟨i, hi, rfl⟩ := List.mem_iff_getElem.1 hm; have := hbd i _ (List.getElem?_eq_getElem hi); omega)))) rfl rfl rfl  ?_
      refine rr_pure (rp rfl) rfl rfl rfl ?_
      refine rr_pure (rp rfl) rfl rfl rfl ?_
      refine rr_eff (r_storeL rfl rfl rfl rfl rfl rfl rfl (Nat.le_of_ble_eq_true rfl)) rfl rfl rfl (by simp) ?_
      refine rr_pure (rp rfl) rfl rfl rfl ?_
      refine rr_nil rfl ?_
      refine then_n ?_
      refine aw_ret ?_
      exact fin_mv [4] (resA_cell rfl rfl rfl rfl (resA_tmp rfl resA_nil)) (mv_one rfl (flat_plain pI _)) (by simp [resT, AT.ren, AV.ren, AC.ren, renB_base]; rfl) (by simp [Lo, AT.ids, AV.ids, AC.ids])
end Go.Proofs.Ytjjoigokeicneaa
