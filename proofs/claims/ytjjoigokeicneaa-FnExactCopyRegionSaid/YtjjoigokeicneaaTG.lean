/- The law FnExactCopyRegion holds: for every input it returns true, and its arguments read behind the call as they read before; there is no condition. -/
import Derived.Test.YtjjoigokeicneaaTF
import Derived.Test.YtjjoigokeicneaaRows
import Derived.Test.YtjjoigokeicneaaAwV
import Derived.WalkKit
import Derived.ProofKit
import Derived.OpenShut
import Derived.ChangeOld
import Derived.SizedLaws
namespace Go.Proofs.Ytjjoigokeicneaa
open Go.Aw Go.ChangeShapes Go.WideShapes Go.ChangeAt Go.RowKit
set_option maxRecDepth 100000
set_option linter.unusedSimpArgs false
set_option linter.unusedVariables false
theorem own : ownKnob Try.prog.godebug = none := by kernel_rfl
theorem laidOut : laidOutB Try.prog = true := by kernel_rfl
theorem c5 (H : Heap) {w h w' h' : Int} {v v' v'' : AC} {xs ys rs : List Int} (hr : Rd cx H 1 eI v xs) (hr' : Rd cx H 1 eI v' ys) (hr'' : Rd cx H 1 eI v'' rs) (hn : xs.length ≤ 2 ^ 44) (hn' : ys.length ≤ 2 ^ 44) (hn'' : rs.length ≤ 2 ^ 44) :
    ACalls cx 5 [aF w h v, aF w' h' v', .c v''] H (Vb true) H := by
  cases hc : cond27 w h w' h' xs ys rs with
  | true => exact c5s H hr hr' hr'' hn hn' hn'' hc
  | false => exact c5f H hr hr' hr'' hn hn' hn'' hc
/-- A field that came in. -/
theorem in_field {H0 : Type} {en : TypeId × Value → H0} {w : World} {H : Heap} {ι : Inj} {fuel : Nat} {v : Value} {x : DataW H0 × List MemPlace} (hi : Inp cx H ι w) (hv : ∃ cs, v = .agg cs) (hwt : ∀ m ∈ x.1.weights Try.prog 37, m ≤ reachBytes) (h : DataW.trod en Try.prog w 0 (fun _ => true) true fuel 37 v.cells.toList = some x) :
    ∃ ι' W H' ac xs, Inp cx (H ++ [some ⟨xs.flatMap eI, false, 1⟩]) ι' w ∧ (∀ b L, ι b = some L → ι' b = some L) ∧ RV ι' (aF W H' ac) v ∧ Rd cx (H ++ [some ⟨xs.flatMap eI, false, 1⟩]) 1 eI ac xs ∧ xs.length ≤ 2 ^ 44 := by
  obtain ⟨cs, rfl⟩ := hv
  obtain ⟨hl, hp⟩ := trod_parts (X := cx) Try.underlying37 hwt h
  obtain ⟨y0, n0, h0, _⟩ := hp 0 _ rfl
  obtain ⟨y1, n1, h1, _⟩ := hp 1 _ rfl
  obtain ⟨y2, n2, h2, w2⟩ := hp 2 _ rfl
  obtain ⟨a, e0, _, _⟩ := DataW.trod_int (P := Try.prog) Try.underlying3 h0
  obtain ⟨b, e1, _, _⟩ := DataW.trod_int (P := Try.prog) Try.underlying3 h1
  obtain ⟨ι', ac, u, xs, e2, g1, g2, g3, g4, g5, g6⟩ := hi.ints (X := cx) Try.underlying22 Try.underlying3 (by kernel_rfl) (by kernel_rfl) w2 h2
  replace e0 : List.take (Try.prog.cellsOf 3) (List.drop 0 (Value.agg cs).cells.toList) = [.int .i64 a] := e0
  replace e1 : List.take (Try.prog.cellsOf 3) (List.drop 1 (Value.agg cs).cells.toList) = [.int .i64 b] := e1
  replace e2 : List.take (Try.prog.cellsOf 22) (List.drop 2 (Value.agg cs).cells.toList) = [u] := e2
  replace hl : (Value.agg cs).cells.toList.length = Try.prog.cellsOf 37 := hl
  rw [show (Try.prog.cellsOf 3) = 1 by kernel_rfl] at e0 e1
  rw [show (Try.prog.cellsOf 22) = 1 by kernel_rfl] at e2
  rw [show (Try.prog.cellsOf 37) = 3 by kernel_rfl] at hl
  obtain ⟨p, q, r, e⟩ : ∃ p q r, (Value.agg cs).cells.toList = [p, q, r] := by
    match hm : (Value.agg cs).cells.toList, hl with
    | [p, q, r], _ => exact ⟨p, q, r, rfl⟩
  rw [e] at e0 e1 e2
  simp at e0 e1 e2
  subst e0 e1 e2
  exact ⟨ι', a, b, ac, xs, g1, g2, ⟨_, by rw [← e]; rfl, .cons ⟨rfl, rfl⟩ (.cons ⟨rfl, rfl⟩ (.cons g3 .nil))⟩, g4, g6⟩
theorem lifted (os : Os) (started : os.Started) (H : Type) (enc : TypeId × Value → H) :
    ReturnsInHanded {} Try.checked os 5 .any (Rows.fnExactCopyRegionSpec.pre6 enc Try.prog Try.f5 Rows.fnExactCopyRegionRow.domain false) (Rows.fnExactCopyRegionSpec.post enc Try.prog Try.f5 false true false false) := by
  refine returnsInHanded_of_change_sized (C := Try.checked) own started (by kernel_rfl) Try.func5
    (ChangeSpec.witness6 (enc := enc) (C := Try.checked) false ⟨#[], #[.agg #[.int .i64 0, .int .i64 0, .slice none 0 0], .agg #[.int .i64 0, .int .i64 0, .slice none 0 0], .slice none 0 0], []⟩ 8 (by kernel_rfl) (by kernel_rfl) (by kernel_rfl) (by kernel_rfl)) ?_
  intro W base args ds gs before hval0 hW hcnd hsz0 _
  have hsz : (DataW.weightsEach Try.prog (Try.f5.params.toList ++ Rows.fnExactCopyRegionSpec.plain.varTypes Try.prog) (ds ++ gs)).all (· ≤ reachBytes) = true := hsz0
  have hval : ∀ (j : Nat) t v, Try.f5.params[j]? = some t → args[j]? = some v → Value.okWide Try.prog W .any base t v := hval0
  have hW' := hW
  obtain ⟨p, q, hA0, hV, rfl, hfz, hnd⟩ := hW
  have hA : DataW.TrodAll enc Try.prog W 0 (fun _ => true) true Try.f5.params.toList args.toList ds p := hA0
  rw [Try.params5] at hA hval hsz
  obtain ⟨v0, vs0, d0, ds0, p0, q0, hargs, rfl, rfl, h0, r0⟩ := trodAll_cons hA
  obtain ⟨v1, vs1, d1, ds1, p1, q1, rfl, rfl, rfl, h1, r1⟩ := trodAll_cons r0
  obtain ⟨v2, vs2, d2, ds2, p2, q2, rfl, rfl, rfl, h2, r2⟩ := trodAll_cons r1
  obtain ⟨rfl, rfl, rfl⟩ := trodAll_nil r2
  obtain rfl : args = #[v0, v1, v2] := by cases args; simp_all
  obtain ⟨rfl, rfl⟩ := trodVars_none hV
  have wts : ∀ (j : Nat) t d, ([37, 37, 22] : List Nat)[j]? = some t → [d0, d1, d2][j]? = some d → ∀ m ∈ d.weights Try.prog t, m ≤ reachBytes := by
    intro j t d ht hd m hm
    have := List.all_eq_true.1 hsz m (DataW.weights_mem_each (j := j) (t := t) (d := d) (by have := List.getElem?_eq_some_iff.1 ht; simp only [List.getElem?_append_left this.1]; exact ht) (by have := List.getElem?_eq_some_iff.1 hd; simp only [List.getElem?_append_left this.1]; exact hd) m hm)
    simpa using this
  have lt0 : ∀ x ∈ p0, x.block < W.heap.size := by obtain ⟨m, hm⟩ := h0; exact DataW.trod_lt m _ _ _ hm
  have lt1 : ∀ x ∈ p1, x.block < W.heap.size := by obtain ⟨m, hm⟩ := h1; exact DataW.trod_lt m _ _ _ hm
  have lt2 : ∀ x ∈ p2, x.block < W.heap.size := by obtain ⟨m, hm⟩ := h2; exact DataW.trod_lt m _ _ _ hm
  have k0 := h0
  have k1 := h1
  have k2 := h2
  obtain ⟨m0, t0⟩ := h0
  obtain ⟨m1, t1⟩ := h1
  obtain ⟨m2, t2⟩ := h2
  have o0 := okWide_struct Try.underlying37 (hval 0 37 v0 rfl rfl)
  have o1 := okWide_struct Try.underlying37 (hval 1 37 v1 rfl rfl)
  obtain ⟨a2, l2, c2, rfl⟩ := okWide_slice Try.underlying22 (hval 2 22 v2 rfl rfl)
  have i0 : Inp cx [] (fun _ => none) W := Inp.start rfl (fun _ => rfl) W
  obtain ⟨ι1, W1, H1, ac1, xs, i1, s1, g1, rd1, n1⟩ := in_field i0 ⟨_, o0.choose_spec.1⟩ (wts 0 37 d0 rfl rfl) t0
  obtain ⟨ι2, W2, H2, ac2, ys, i2, s2, g2, rd2, n2⟩ := in_field i1 ⟨_, o1.choose_spec.1⟩ (wts 1 37 d1 rfl rfl) t1
  obtain ⟨ι3, ac3, u, rs, e3, i3, s3, g3, rd3, b3, n3⟩ := i2.ints (X := cx) (x := (d2, p2)) Try.underlying22 Try.underlying3 (by kernel_rfl) (by kernel_rfl) (wts 2 22 d2 rfl rfl) t2
  simp [Value.cells] at e3
  subst e3
  refine ((c5 _ rd1.app.app rd2.app rd3 n1 n2 n3).law i3 (.cons ((g1.mono s2).mono s3) (.cons (g2.mono s3) (.cons g3 .nil)))).mono fun e W' ⟨he, bel⟩ => ?_
  subst he
  exact ⟨_, rfl, _, _, _, [], _, [], hW', trodAll_mk1 (shut_bool Try.underlying4 _), (trodAll_cons_mk (Below.trod laidOut (by kernel_rfl) (of_decide_eq_true (by kernel_rfl)) k0 bel lt0) (trodAll_cons_mk (Below.trod laidOut (by kernel_rfl) (of_decide_eq_true (by kernel_rfl)) k1 bel lt1) (trodAll_cons_mk (Below.trod laidOut (by kernel_rfl) (of_decide_eq_true (by kernel_rfl)) k2 bel lt2) trodAll_mk0))), rfl, bel.frame _, fun h => by cases h⟩
theorem over : Rows.fnExactCopyRegionRow.holds Try.pinned (OpenSpec.ofChange Rows.fnExactCopyRegionSpec) :=
  OpenClaim.holds_of_wide 5 Try.f5 rfl rfl rfl rfl rfl rfl rfl ⟨rfl, rfl, rfl, rfl, rfl⟩ rfl rfl rfl rfl rfl (by kernel_rfl) Try.func5 (by kernel_rfl)
    (of_decide_eq_true (by kernel_rfl)) (by unfold Func.isWrapper; first | (rw [if_pos (by decide +kernel)]; kernel_rfl) | (rw [if_neg (by decide +kernel)]; exact ⟨rfl, rfl⟩))
    (fun os started H enc _ => lifted os started H enc)
/-- The row, under a short name, for the claim. -/
theorem fnExactCopyRegion_holds : Rows.FnExactCopyRegionSaid := over
#print axioms fnExactCopyRegion_holds
end Go.Proofs.Ytjjoigokeicneaa
