/- The law FnExactNewConsole holds: for every input it returns true, and its arguments read behind the call as they read before; there is no condition. -/
import Derived.Test.YtneoihnljollaaaLZ
import Derived.Test.YtneoihnljollaaaRows
import Derived.Test.YtneoihnljollaaaAwV
import Derived.WalkKit
import Derived.ProofKit
import Derived.OpenShut
import Derived.ShutString
import Derived.ChangeOld
import Derived.SizedLaws
namespace Go.Proofs.Ytneoihnljollaaa
open Go.Aw Go.ChangeShapes Go.WideShapes Go.ChangeAt Go.RowKit
set_option maxRecDepth 100000
set_option maxHeartbeats 4000000
set_option linter.unusedSimpArgs false
set_option linter.unusedVariables false
theorem own : ownKnob Try.prog.godebug = none := by kernel_rfl
theorem laidOut : laidOutB Try.prog = true := by kernel_rfl
theorem dec42 {H0 : Type} {en : TypeId × Value → H0} {W : World} : ∀ (cs : List Value) (y : DataW H0 × List MemPlace) (n : Nat), cs.length = 6 → DataW.trod en Try.prog W 0 (fun _ => true) true n 42 cs = some y → (∀ m ∈ y.1.weights Try.prog 42, m ≤ reachBytes) → ∃ x : Wn, (∀ ι, A2 (RC ι) (eW x) cs) ∧ (fun x => ((IntKind.i64).min ≤ x.i ∧ x.i ≤ (IntKind.i64).max) ∧ ((IntKind.i64).min ≤ x.t ∧ x.t ≤ (IntKind.i64).max) ∧ ((IntKind.i64).min ≤ x.l ∧ x.l ≤ (IntKind.i64).max) ∧ ((IntKind.i64).min ≤ x.a ∧ x.a ≤ (IntKind.i64).max) ∧ ((IntKind.i64).min ≤ x.f ∧ x.f ≤ (IntKind.i64).max) ∧ ((IntKind.i64).min ≤ x.u ∧ x.u ≤ (IntKind.i64).max)) x := by
  intro cs y n hl h hw
  obtain ⟨c0, c1, c2, c3, c4, c5, rfl⟩ : ∃ c0 c1 c2 c3 c4 c5, cs = [c0, c1, c2, c3, c4, c5] := by
    match cs, hl with
    | [c0, c1, c2, c3, c4, c5], _ => exact ⟨c0, c1, c2, c3, c4, c5, rfl⟩
  obtain ⟨_, hpk1⟩ := trod_parts (X := cx) Try.underlying42 hw h
  obtain ⟨yk1_0, nk1_0, hk1_0, wk1_0⟩ := hpk1 0 _ rfl
  replace hk1_0 : DataW.trod en Try.prog W 0 (fun _ => true) true nk1_0 3 (List.take (Try.prog.cellsOf 3) (List.drop 0 [c0, c1, c2, c3, c4, c5])) = some yk1_0 := hk1_0
  rw [show Try.prog.cellsOf 3 = 1 by kernel_rfl] at hk1_0
  simp only [List.drop_succ_cons, List.drop_zero, List.take_succ_cons, List.take_zero] at hk1_0
  obtain ⟨yk1_1, nk1_1, hk1_1, wk1_1⟩ := hpk1 1 _ rfl
  replace hk1_1 : DataW.trod en Try.prog W 0 (fun _ => true) true nk1_1 3 (List.take (Try.prog.cellsOf 3) (List.drop 1 [c0, c1, c2, c3, c4, c5])) = some yk1_1 := hk1_1
  rw [show Try.prog.cellsOf 3 = 1 by kernel_rfl] at hk1_1
  simp only [List.drop_succ_cons, List.drop_zero, List.take_succ_cons, List.take_zero] at hk1_1
  obtain ⟨yk1_2, nk1_2, hk1_2, wk1_2⟩ := hpk1 2 _ rfl
  replace hk1_2 : DataW.trod en Try.prog W 0 (fun _ => true) true nk1_2 3 (List.take (Try.prog.cellsOf 3) (List.drop 2 [c0, c1, c2, c3, c4, c5])) = some yk1_2 := hk1_2
  rw [show Try.prog.cellsOf 3 = 1 by kernel_rfl] at hk1_2
  simp only [List.drop_succ_cons, List.drop_zero, List.take_succ_cons, List.take_zero] at hk1_2
  obtain ⟨yk1_3, nk1_3, hk1_3, wk1_3⟩ := hpk1 3 _ rfl
  replace hk1_3 : DataW.trod en Try.prog W 0 (fun _ => true) true nk1_3 3 (List.take (Try.prog.cellsOf 3) (List.drop 3 [c0, c1, c2, c3, c4, c5])) = some yk1_3 := hk1_3
  rw [show Try.prog.cellsOf 3 = 1 by kernel_rfl] at hk1_3
  simp only [List.drop_succ_cons, List.drop_zero, List.take_succ_cons, List.take_zero] at hk1_3
  obtain ⟨yk1_4, nk1_4, hk1_4, wk1_4⟩ := hpk1 4 _ rfl
  replace hk1_4 : DataW.trod en Try.prog W 0 (fun _ => true) true nk1_4 3 (List.take (Try.prog.cellsOf 3) (List.drop 4 [c0, c1, c2, c3, c4, c5])) = some yk1_4 := hk1_4
  rw [show Try.prog.cellsOf 3 = 1 by kernel_rfl] at hk1_4
  simp only [List.drop_succ_cons, List.drop_zero, List.take_succ_cons, List.take_zero] at hk1_4
  obtain ⟨yk1_5, nk1_5, hk1_5, wk1_5⟩ := hpk1 5 _ rfl
  replace hk1_5 : DataW.trod en Try.prog W 0 (fun _ => true) true nk1_5 3 (List.take (Try.prog.cellsOf 3) (List.drop 5 [c0, c1, c2, c3, c4, c5])) = some yk1_5 := hk1_5
  rw [show Try.prog.cellsOf 3 = 1 by kernel_rfl] at hk1_5
  simp only [List.drop_succ_cons, List.drop_zero, List.take_succ_cons, List.take_zero] at hk1_5
  obtain ⟨ac0, ec0, _, bc0⟩ := DataW.trod_int (P := Try.prog) Try.underlying3 hk1_0
  obtain rfl : c0 = _ := by simpa using ec0
  simp only [Lit.wf, Bool.and_eq_true, decide_eq_true_eq] at bc0
  obtain ⟨ac1, ec1, _, bc1⟩ := DataW.trod_int (P := Try.prog) Try.underlying3 hk1_1
  obtain rfl : c1 = _ := by simpa using ec1
  simp only [Lit.wf, Bool.and_eq_true, decide_eq_true_eq] at bc1
  obtain ⟨ac2, ec2, _, bc2⟩ := DataW.trod_int (P := Try.prog) Try.underlying3 hk1_2
  obtain rfl : c2 = _ := by simpa using ec2
  simp only [Lit.wf, Bool.and_eq_true, decide_eq_true_eq] at bc2
  obtain ⟨ac3, ec3, _, bc3⟩ := DataW.trod_int (P := Try.prog) Try.underlying3 hk1_3
  obtain rfl : c3 = _ := by simpa using ec3
  simp only [Lit.wf, Bool.and_eq_true, decide_eq_true_eq] at bc3
  obtain ⟨ac4, ec4, _, bc4⟩ := DataW.trod_int (P := Try.prog) Try.underlying3 hk1_4
  obtain rfl : c4 = _ := by simpa using ec4
  simp only [Lit.wf, Bool.and_eq_true, decide_eq_true_eq] at bc4
  obtain ⟨ac5, ec5, _, bc5⟩ := DataW.trod_int (P := Try.prog) Try.underlying3 hk1_5
  obtain rfl : c5 = _ := by simpa using ec5
  simp only [Lit.wf, Bool.and_eq_true, decide_eq_true_eq] at bc5
  exact ⟨⟨ac0, ac1, ac2, ac3, ac4, ac5⟩, fun ι => .cons ⟨rfl, rfl⟩ (.cons ⟨rfl, rfl⟩ (.cons ⟨rfl, rfl⟩ (.cons ⟨rfl, rfl⟩ (.cons ⟨rfl, rfl⟩ (.cons ⟨rfl, rfl⟩ .nil))))), bc0, bc1, bc2, bc3, bc4, bc5⟩
theorem lifted (os : Os) (started : os.Started) (H : Type) (en : TypeId × Value → H) :
    ReturnsInHanded {} Try.checked os 3 .any (Rows.fnExactNewConsoleSpec.pre6 en Try.prog Try.f3 Rows.fnExactNewConsoleRow.domain false) (Rows.fnExactNewConsoleSpec.post en Try.prog Try.f3 false true false false) := by
  refine returnsInHanded_of_change_sized (C := Try.checked) own started (by kernel_rfl) Try.func3
    (ChangeSpec.witness6 (enc := en) (C := Try.checked) false ⟨#[], #[.slice none 0 0], []⟩ 8 (by kernel_rfl) (by kernel_rfl) (by kernel_rfl) (by kernel_rfl)) ?_
  intro W base args ds gs before hval0 hW hcnd hsz0 _
  have hsz : (DataW.weightsEach Try.prog (Try.f3.params.toList ++ Rows.fnExactNewConsoleSpec.plain.varTypes Try.prog) (ds ++ gs)).all (· ≤ reachBytes) = true := hsz0
  have hval : ∀ (j : Nat) t v, Try.f3.params[j]? = some t → args[j]? = some v → Value.okWide Try.prog W .any base t v := hval0
  have hW' := hW
  obtain ⟨p, q, hA0, hV, rfl, hfz, hnd⟩ := hW
  have hA : DataW.TrodAll en Try.prog W 0 (fun _ => true) true Try.f3.params.toList args.toList ds p := hA0
  rw [Try.params3] at hA hval hsz
  obtain ⟨v0, vs0, d0, ds0, p0, q0, hargs, rfl, rfl, h0, r0⟩ := trodAll_cons hA
  obtain ⟨rfl, rfl, rfl⟩ := trodAll_nil r0
  obtain rfl : args = #[v0] := by cases args; simp_all
  obtain ⟨rfl, rfl⟩ := trodVars_none hV
  have wts : ∀ (j : Nat) t d, ([22] : List Nat)[j]? = some t → [d0][j]? = some d → ∀ m ∈ d.weights Try.prog t, m ≤ reachBytes := by
    intro j t d ht hd m hm
    have := List.all_eq_true.1 hsz m (DataW.weights_mem_each (j := j) (t := t) (d := d) (by have := List.getElem?_eq_some_iff.1 ht; simp only [List.getElem?_append_left this.1]; exact ht) (by have := List.getElem?_eq_some_iff.1 hd; simp only [List.getElem?_append_left this.1]; exact hd) m hm)
    simpa using this
  have lt0 : ∀ x ∈ p0, x.block < W.heap.size := by obtain ⟨m, hm⟩ := h0; exact DataW.trod_lt m _ _ _ hm
  have k0 := h0
  have i0 : Inp cx [] (fun _ => none) W := Inp.start rfl (fun _ => rfl) W
  obtain ⟨a0, l0, c0, rfl⟩ := okWide_slice Try.underlying22 (hval 0 22 v0 rfl rfl)
  obtain ⟨f0, t0⟩ := h0
  replace t0 : DataW.trod en Try.prog W 0 (fun _ => true) true f0 22 [.slice a0 l0 c0] = some (d0, p0) := t0
  obtain ⟨ι0, ac0, u0, xs0, e0, i1, s0, g0, rd0, q0, m0⟩ := i0.slice (X := cx) (x := (d0, p0)) (enc := eW) lW (by decide) Try.underlying22 (by kernel_rfl) dec42 (wts 0 22 d0 rfl rfl) t0
  replace m0 : xs0.length * Try.prog.bytesOf 42 ≤ reachBytes := m0
  rw [show Try.prog.bytesOf 42 = 48 by kernel_rfl] at m0; unfold reachBytes at m0
  have n0 : xs0.length ≤ 2 ^ 44 := by omega
  obtain rfl : Value.slice a0 l0 c0 = u0 := by simpa [Value.cells] using e0
  have r0 := rd0
  refine ((c3 _ r0 n0).law i1 (.cons g0 .nil)).mono fun e W' ⟨he, bel⟩ => ?_
  subst he
  exact ⟨_, rfl, _, _, _, [], _, [], hW', trodAll_mk1 (shut_bool Try.underlying4 _), (trodAll_cons_mk (Below.trod laidOut (by kernel_rfl) (of_decide_eq_true (by kernel_rfl)) k0 bel lt0) trodAll_mk0), rfl, bel.frame _, fun h => by cases h⟩
theorem over : Rows.fnExactNewConsoleRow.holds Try.pinned (OpenSpec.ofChange Rows.fnExactNewConsoleSpec) :=
  OpenClaim.holds_of_wide 3 Try.f3 rfl rfl rfl rfl rfl rfl rfl ⟨rfl, rfl, rfl, rfl, rfl⟩ rfl rfl rfl rfl rfl (by kernel_rfl) Try.func3 (by kernel_rfl)
    (of_decide_eq_true (by kernel_rfl)) (by unfold Func.isWrapper; first | (rw [if_pos (by decide +kernel)]; kernel_rfl) | (rw [if_neg (by decide +kernel)]; exact ⟨rfl, rfl⟩))
    (fun os started H enc _ => lifted os started H enc)
/-- The row, under a short name, for the claim. -/
theorem fnExactNewConsole_holds : Rows.FnExactNewConsoleSaid := over
#print axioms fnExactNewConsole_holds
end Go.Proofs.Ytneoihnljollaaa
