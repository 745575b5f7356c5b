/- The law FnExactCrashLog holds: for every input it returns true, and its arguments read behind the call as they read before; there is no condition. -/
import Derived.Test.YtfdopoijhjbamaaDoorN1
import Derived.Test.YtfdopoijhjbamaaDoorRows
import Derived.Test.YtfdopoijhjbamaaDoorAwV
import Derived.WalkKit
import Derived.ProofKit
import Derived.OpenShut
import Derived.ShutString
import Derived.ChangeOld
import Derived.SizedLaws
import Derived.Test.YtfdopoijhjbamaaDoorTie
import Derived.Test.YtfdopoijhjbamaaDoorCards
import Derived.Test.YtfdopoijhjbamaaDoorAwZ
import Derived.LaidMore
import Derived.MakeChecks
import Derived.SevenTiedAt
import Derived.Shelf.Vars
namespace Go.Proofs.YtfdopoijhjbamaaDoor
open Go.Aw Go.ChangeShapes Go.WideShapes Go.ChangeAt Go.RowKit
set_option maxRecDepth 100000
set_option maxHeartbeats 4000000
set_option linter.unusedSimpArgs false
set_option linter.unusedVariables false
theorem own : ownKnob Tryd.prog.godebug = none := by kernel_rfl
theorem laidOut : laidOutB Tryd.prog = true := by kernel_rfl
abbrev laidL : List (String × DataW Unit) := Rows.fnExactCrashLogRow.laid
theorem door_met (os : Os) (args : Array Value) : laidMetH Tryd.prog laidL ((World.doorLaid Tryd.prog 400 os).forCall (fun _ _ => 0) ⟨#[], args, []⟩).memory :=
  laidMetH_of_parts3 (fuel := 8) (laidMet_of_run' 8 (by kernel_rfl) (by kernel_rfl)) (by kernel_rfl) (by kernel_rfl)
theorem laid_drop {P : Program} {x : String × DataW Unit} {l : List (String × DataW Unit)} {w : World} (h : laidMet P (x :: l) w) : laidMet P l w := by
  obtain ⟨ps, ⟨g, t, cs, f, p, q, _, _, _, _, hl, rfl⟩, hn, hm⟩ := h
  exact ⟨q, hl, (List.nodup_append.1 hn).2.1, fun b off hb => hm b off (List.mem_append_right _ hb)⟩
theorem kok {W : World} (hsh : W.ShapedOpen Tryd.prog) (hL : laidMetH Tryd.prog laidL W) : ∃ K, KOk K ∧ ∀ p ∈ K, W.heap[p.1]? = some p.2 := by
  rw [MakeChecks.laidMetH_plain _ _ _ (by kernel_rfl)] at hL
  replace hL := laid_drop hL
  replace hL := laid_drop hL
  have hT : Lib.TabIs Tryd.prog W "internal/strconv.uint64pow10" .u64 Lib.pow10Tab := Lib.tabIs_of_head (g := 1) (t := 120) (e := 54) (n := 20) (by kernel_rfl) (by kernel_rfl) (by kernel_rfl) (by kernel_rfl) (by kernel_rfl) (by kernel_rfl) hL
  obtain ⟨m, hm⟩ := cell_of_shapedOpen_int (P := Tryd.prog) (g := 0) (t := 3) (zero := #[.int .i64 0]) hsh (of_decide_eq_true (by kernel_rfl)) (by kernel_rfl) rfl (by kernel_rfl) (by kernel_rfl) Tryd.underlying3
  obtain ⟨a0, t0, f0, h0, _, e0⟩ := cell?_block hm
  unfold Lib.TabIs World.var? at hT
  rw [show Tryd.prog.globalNamed "internal/strconv.uint64pow10" = some 1 by kernel_rfl] at hT
  simp only [Option.bind_some] at hT
  split at hT
  · rename_i c1 t1 f1 h1
    have e1 := Option.some.inj hT
    exact ⟨[(0, .cells a0 t0 f0), (1, .cells c1 t1 f1)], ⟨⟨m, a0, t0, f0, by simp, e0⟩, ⟨c1, t1, f1, by simp, e1⟩⟩, by simpa using ⟨h0, h1⟩⟩
  · cases hT
theorem lifted (os : Os) (started : os.Started) (H : Type) (en : TypeId × Value → H) :
    ReturnsInHanded {} Tryd.checked os 3 .any (fun w args => (Rows.fnExactCrashLogSpec.pre en Tryd.prog Tryd.f3 [] false w args ∧ laidMetH Tryd.prog laidL w) ∧ sizedMet en Tryd.prog Tryd.f3 (OpenSpec.ofChange Rows.fnExactCrashLogSpec) false w args) (Rows.fnExactCrashLogSpec.post en Tryd.prog Tryd.f3 false true false false) := by
  refine returnsInHanded_of_change_and_shaped (C := Tryd.checked) (X := fun w _ => laidMetH Tryd.prog laidL w) (fun _ _ _ hh h => h.of_heap hh) own started (by kernel_rfl) Tryd.func3
    (ChangeSpec.witness_shaped (enc := en) (C := Tryd.checked) (os := os) (X := fun w _ => laidMetH Tryd.prog laidL w) false (World.doorLaid Tryd.prog 400 os) #[.agg #[.string ByteArray.empty, .string ByteArray.empty, .int .i64 0], .int .i64 0, .bool false] 8 rfl (World.shaped_of_RefB (by kernel_rfl) (by kernel_rfl)) (by kernel_rfl) (by kernel_rfl) (by kernel_rfl) (door_met os _)) ?_
  intro W base args ds gs before hval0 hW hcnd hsz0 hL hsh _
  obtain ⟨K, hKo, hKw⟩ := kok hsh hL
  haveI hK : Nonempty (KOk K) := ⟨hKo⟩
  have hsz : (DataW.weightsEach Tryd.prog (Tryd.f3.params.toList ++ Rows.fnExactCrashLogSpec.plain.varTypes Tryd.prog) (ds ++ gs)).all (· ≤ reachBytes) = true := hsz0
  have hval : ∀ (j : Nat) t v, Tryd.f3.params[j]? = some t → args[j]? = some v → Value.okWide Tryd.prog W .any base t v := hval0
  have hW' := hW
  obtain ⟨p, q, hA0, hV, rfl, hfz, hnd⟩ := hW
  have hA : DataW.TrodAll en Tryd.prog W 0 (fun _ => true) true Tryd.f3.params.toList args.toList ds p := hA0
  rw [Tryd.params3] at hA hval hsz
  obtain ⟨v0, vs0, d0, ds0, p0, q0, hargs, rfl, rfl, h0, r0⟩ := trodAll_cons hA
  obtain ⟨v1, vs1, d1, ds1, p1, q1, rfl, rfl, rfl, h1, r1⟩ := trodAll_cons r0
  obtain ⟨v2, vs2, d2, ds2, p2, q2, rfl, rfl, rfl, h2, r2⟩ := trodAll_cons r1
  obtain ⟨rfl, rfl, rfl⟩ := trodAll_nil r2
  obtain rfl : args = #[v0, v1, v2] := by cases args; simp_all
  obtain ⟨rfl, rfl⟩ := trodVars_none hV
  have wts : ∀ (j : Nat) t d, ([23, 3, 4] : List Nat)[j]? = some t → [d0, d1, d2][j]? = some d → ∀ m ∈ d.weights Tryd.prog t, m ≤ reachBytes := by
    intro j t d ht hd m hm
    have := List.all_eq_true.1 hsz m (DataW.weights_mem_each (j := j) (t := t) (d := d) (by have := List.getElem?_eq_some_iff.1 ht; simp only [List.getElem?_append_left this.1]; exact ht) (by have := List.getElem?_eq_some_iff.1 hd; simp only [List.getElem?_append_left this.1]; exact hd) m hm)
    simpa using this
  have lt0 : ∀ x ∈ p0, x.block < W.heap.size := by obtain ⟨m, hm⟩ := h0; exact DataW.trod_lt m _ _ _ hm
  have k0 := h0
  have lt1 : ∀ x ∈ p1, x.block < W.heap.size := by obtain ⟨m, hm⟩ := h1; exact DataW.trod_lt m _ _ _ hm
  have k1 := h1
  have lt2 : ∀ x ∈ p2, x.block < W.heap.size := by obtain ⟨m, hm⟩ := h2; exact DataW.trod_lt m _ _ _ hm
  have k2 := h2
  have i0 : Inp (cx K) [] (fun _ => none) W := Inp.startK (fun _ => rfl) W hKw
  obtain ⟨cs0, o0, _⟩ := okWide_struct Tryd.underlying23 (hval 0 23 v0 rfl rfl)
  subst o0
  obtain ⟨f0, t0⟩ := h0
  obtain ⟨hl0, _⟩ := trod_parts (X := (cx K)) (x := (d0, p0)) Tryd.underlying23 (wts 0 23 d0 rfl rfl) t0
  replace hl0 : (Value.agg cs0).cells.toList.length = Tryd.prog.cellsOf 23 := hl0
  rw [show Tryd.prog.cellsOf 23 = 3 by kernel_rfl] at hl0
  obtain ⟨c0_0, c0_1, c0_2, ec0⟩ : ∃ c0_0 c0_1 c0_2, (Value.agg cs0).cells.toList = [c0_0, c0_1, c0_2] := by
    match hm : (Value.agg cs0).cells.toList, hl0 with
    | [c0_0, c0_1, c0_2], _ => exact ⟨c0_0, c0_1, c0_2, rfl⟩
  rw [ec0] at t0
  obtain ⟨_, hpk1⟩ := trod_parts (X := (cx K)) (x := (d0, p0)) Tryd.underlying23 (wts 0 23 d0 rfl rfl) t0
  obtain ⟨yk1_0, nk1_0, hk1_0, wk1_0⟩ := hpk1 0 _ rfl
  replace hk1_0 : DataW.trod en Tryd.prog W 0 (fun _ => true) true nk1_0 9 (List.take (Tryd.prog.cellsOf 9) (List.drop 0 [c0_0, c0_1, c0_2])) = some yk1_0 := hk1_0
  rw [show Tryd.prog.cellsOf 9 = 1 by kernel_rfl] at hk1_0
  simp only [List.drop_succ_cons, List.drop_zero, List.take_succ_cons, List.take_zero] at hk1_0
  obtain ⟨yk1_1, nk1_1, hk1_1, wk1_1⟩ := hpk1 1 _ rfl
  replace hk1_1 : DataW.trod en Tryd.prog W 0 (fun _ => true) true nk1_1 9 (List.take (Tryd.prog.cellsOf 9) (List.drop 1 [c0_0, c0_1, c0_2])) = some yk1_1 := hk1_1
  rw [show Tryd.prog.cellsOf 9 = 1 by kernel_rfl] at hk1_1
  simp only [List.drop_succ_cons, List.drop_zero, List.take_succ_cons, List.take_zero] at hk1_1
  obtain ⟨yk1_2, nk1_2, hk1_2, wk1_2⟩ := hpk1 2 _ rfl
  replace hk1_2 : DataW.trod en Tryd.prog W 0 (fun _ => true) true nk1_2 3 (List.take (Tryd.prog.cellsOf 3) (List.drop 2 [c0_0, c0_1, c0_2])) = some yk1_2 := hk1_2
  rw [show Tryd.prog.cellsOf 3 = 1 by kernel_rfl] at hk1_2
  simp only [List.drop_succ_cons, List.drop_zero, List.take_succ_cons, List.take_zero] at hk1_2
  obtain ⟨ac0_0, ec0_0, xc0_0, _⟩ := DataW.trod_string (P := Tryd.prog) Tryd.underlying9 hk1_0
  obtain rfl : c0_0 = _ := by simpa using ec0_0
  have bc0_0 : ac0_0.size ≤ reachBytes := by
    have z := wk1_0 ac0_0.data.toList.length (by rw [xc0_0]; simp [DataW.weights])
    simpa using z
  obtain ⟨ac0_1, ec0_1, xc0_1, _⟩ := DataW.trod_string (P := Tryd.prog) Tryd.underlying9 hk1_1
  obtain rfl : c0_1 = _ := by simpa using ec0_1
  have bc0_1 : ac0_1.size ≤ reachBytes := by
    have z := wk1_1 ac0_1.data.toList.length (by rw [xc0_1]; simp [DataW.weights])
    simpa using z
  obtain ⟨ac0_2, ec0_2, _, bc0_2⟩ := DataW.trod_int (P := Tryd.prog) Tryd.underlying3 hk1_2
  obtain rfl : c0_2 = _ := by simpa using ec0_2
  simp only [Lit.wf, Bool.and_eq_true, decide_eq_true_eq] at bc0_2
  obtain ⟨a1, rfl, rfl, rfl, b1⟩ := open_int Tryd.underlying3 (hval 1 3 v1 rfl rfl) h1
  obtain ⟨a2, rfl, rfl, rfl⟩ := open_bool Tryd.underlying4 (hval 2 4 v2 rfl rfl) h2
  refine ((c3 _ (x := ⟨ac0_0.data.toList, ac0_1.data.toList, ac0_2⟩) (by have := bc0_0; unfold reachBytes at this; show ac0_0.size ≤ 2 ^ 50; omega) (by have := bc0_1; unfold reachBytes at this; show ac0_1.size ≤ 2 ^ 50; omega)).law i0 (.cons ⟨_, by first | (rw [← ec0]; rfl) | exact congrArg Value.agg (Array.toList_inj.1 ec0), (.cons ⟨rfl, rfl⟩ (.cons ⟨rfl, rfl⟩ (.cons ⟨rfl, rfl⟩ .nil)))⟩ (.cons ⟨rfl, rfl⟩ (.cons ⟨rfl, rfl⟩ .nil)))).mono fun e W' ⟨he, bel⟩ => ?_
  subst he
  exact ⟨_, rfl, _, _, _, [], _, [], hW', trodAll_mk1 (shut_bool Tryd.underlying4 _), (trodAll_cons_mk (Below.trod laidOut (by kernel_rfl) (of_decide_eq_true (by kernel_rfl)) k0 bel lt0) (trodAll_cons_mk (Below.trod laidOut (by kernel_rfl) (of_decide_eq_true (by kernel_rfl)) k1 bel lt1) (trodAll_cons_mk (Below.trod laidOut (by kernel_rfl) (of_decide_eq_true (by kernel_rfl)) k2 bel lt2) trodAll_mk0))), rfl, bel.frame _, fun h => by cases h⟩
theorem over : Rows.fnExactCrashLogRow.holds Tryd.pinned (OpenSpec.ofChange Rows.fnExactCrashLogSpec) :=
  OpenClaim.holds_of_wide 3 Tryd.f3 rfl rfl rfl rfl rfl rfl rfl ⟨rfl, rfl, rfl, rfl, rfl⟩ rfl rfl rfl rfl rfl (by kernel_rfl) Tryd.func3 (by kernel_rfl)
    (of_decide_eq_true (by kernel_rfl)) (by unfold Func.isWrapper; first | (rw [if_pos (by decide +kernel)]; kernel_rfl) | (rw [if_neg (by decide +kernel)]; exact ⟨rfl, rfl⟩))
    (fun os started H enc _ => lifted os started H enc)
/-- The tied card, under a short name, for the claim. -/
theorem fnExactCrashLog_holds : Rows.FnExactCrashLogCardSaid :=
  Claim7.holds_tied_plain_at .later [] [.data, .data, .data] true Rows.fnExactCrashLogCard.stood.harness false over (fun _ h => by cases h) (by kernel_rfl) (fun _ h => by cases h) fnExactCrashLog_row_tie rfl ⟨rfl, rfl⟩ (by kernel_rfl) rfl
    (fun f fn hf hfn => by
      obtain rfl : f = 3 := Option.some.inj ((show Tryd.prog.funcNamed Rows.fnExactCrashLogRow.func = some 3 by kernel_rfl).symm.trans hf) |>.symm
      obtain rfl : fn = Tryd.f3 := (Option.some.inj (Tryd.func3.symm.trans hfn)).symm
      exact ⟨by kernel_rfl, fun j t ht => by
        rw [Tryd.params3] at ht
        have hm : t ∈ [23, 3, 4] := by simpa using Array.mem_of_getElem? ht
        have hall : ([23, 3, 4].all fun u => !Tryd.prog.wantsStandIn u) = true := by kernel_rfl
        exact (show Tryd.prog.wantsStandIn t = false by simpa using List.all_eq_true.1 hall t hm)⟩)
    (by kernel_rfl)
#print axioms fnExactCrashLog_holds
end Go.Proofs.YtfdopoijhjbamaaDoor
