/- The law FnCrashRecovery holds: for every input it returns true, and its arguments read behind the call as they read before; there is no condition. -/
import Derived.Test.YtfdopoijhjbamaaDoorO9
import Derived.Test.YtfdopoijhjbamaaDoorRows
import Derived.Test.YtfdopoijhjbamaaDoorAwV
import Derived.WalkKit
import Derived.ProofKit
import Derived.OpenShut
import Derived.ShutString
import Derived.ChangeOld
import Derived.SizedLaws
import Derived.Test.YtfdopoijhjbamaaDoorTie
import Derived.Test.YtfdopoijhjbamaaDoorCards
import Derived.Test.YtfdopoijhjbamaaDoorAwZ
import Derived.LaidMore
import Derived.MakeChecks
import Derived.SevenTiedAt
import Derived.Shelf.Vars
namespace Go.Proofs.YtfdopoijhjbamaaDoor
open Go.Aw Go.ChangeShapes Go.WideShapes Go.ChangeAt Go.RowKit
set_option maxRecDepth 100000
set_option maxHeartbeats 4000000
set_option linter.unusedSimpArgs false
set_option linter.unusedVariables false
theorem own : ownKnob Tryd.prog.godebug = none := by kernel_rfl
theorem laidOut : laidOutB Tryd.prog = true := by kernel_rfl
theorem dec5 {H0 : Type} {en : TypeId × Value → H0} {W : World} : ∀ (cs : List Value) (y : DataW H0 × List MemPlace) (n : Nat), cs.length = 1 → DataW.trod en Tryd.prog W 0 (fun _ => true) true n 5 cs = some y → (∀ m ∈ y.1.weights Tryd.prog 5, m ≤ reachBytes) → ∃ x : UInt8, (∀ ι, A2 (RC ι) (eC x) cs) ∧ (fun _ => True) x := by
  intro cs y n hl h hw
  obtain ⟨c0, rfl⟩ : ∃ c0, cs = [c0] := by
    match cs, hl with
    | [c0], _ => exact ⟨c0, rfl⟩
  obtain ⟨ac0, ec0, _, bc0⟩ := DataW.trod_int (P := Tryd.prog) Tryd.underlying5 h
  obtain rfl : c0 = _ := by simpa using ec0
  simp only [Lit.wf, Bool.and_eq_true, decide_eq_true_eq] at bc0
  have h1 : (0 : Int) ≤ ac0 := bc0.1
  have h2 : ac0 ≤ 255 := bc0.2
  have e8 : ac0 = ((UInt8.ofNat ac0.toNat).toNat : Int) := by rw [UInt8.toNat_ofNat']; omega
  exact ⟨UInt8.ofNat ac0.toNat, fun ι => .cons ⟨by rw [← e8], rfl⟩ .nil, trivial⟩
abbrev laidL : List (String × DataW Unit) := Rows.fnCrashRecoveryRow.laid
theorem door_met (os : Os) (args : Array Value) : laidMetH Tryd.prog laidL ((World.doorLaid Tryd.prog 400 os).forCall (fun _ _ => 0) ⟨#[], args, []⟩).memory :=
  laidMetH_of_parts3 (fuel := 8) (laidMet_of_run' 8 (by kernel_rfl) (by kernel_rfl)) (by kernel_rfl) (by kernel_rfl)
theorem laid_drop {P : Program} {x : String × DataW Unit} {l : List (String × DataW Unit)} {w : World} (h : laidMet P (x :: l) w) : laidMet P l w := by
  obtain ⟨ps, ⟨g, t, cs, f, p, q, _, _, _, _, hl, rfl⟩, hn, hm⟩ := h
  exact ⟨q, hl, (List.nodup_append.1 hn).2.1, fun b off hb => hm b off (List.mem_append_right _ hb)⟩
theorem kok {W : World} (hsh : W.ShapedOpen Tryd.prog) (hL : laidMetH Tryd.prog laidL W) : ∃ K, KOk K ∧ ∀ p ∈ K, W.heap[p.1]? = some p.2 := by
  rw [MakeChecks.laidMetH_plain _ _ _ (by kernel_rfl)] at hL
  replace hL := laid_drop hL
  replace hL := laid_drop hL
  have hT : Lib.TabIs Tryd.prog W "internal/strconv.uint64pow10" .u64 Lib.pow10Tab := Lib.tabIs_of_head (g := 1) (t := 120) (e := 54) (n := 20) (by kernel_rfl) (by kernel_rfl) (by kernel_rfl) (by kernel_rfl) (by kernel_rfl) (by kernel_rfl) hL
  obtain ⟨m, hm⟩ := cell_of_shapedOpen_int (P := Tryd.prog) (g := 0) (t := 3) (zero := #[.int .i64 0]) hsh (of_decide_eq_true (by kernel_rfl)) (by kernel_rfl) rfl (by kernel_rfl) (by kernel_rfl) Tryd.underlying3
  obtain ⟨a0, t0, f0, h0, _, e0⟩ := cell?_block hm
  unfold Lib.TabIs World.var? at hT
  rw [show Tryd.prog.globalNamed "internal/strconv.uint64pow10" = some 1 by kernel_rfl] at hT
  simp only [Option.bind_some] at hT
  split at hT
  · rename_i c1 t1 f1 h1
    have e1 := Option.some.inj hT
    exact ⟨[(0, .cells a0 t0 f0), (1, .cells c1 t1 f1)], ⟨⟨m, a0, t0, f0, by simp, e0⟩, ⟨c1, t1, f1, by simp, e1⟩⟩, by simpa using ⟨h0, h1⟩⟩
  · cases hT
theorem lifted (os : Os) (started : os.Started) (H : Type) (en : TypeId × Value → H) :
    ReturnsInHanded {} Tryd.checked os 4 .any (fun w args => (Rows.fnCrashRecoverySpec.pre en Tryd.prog Tryd.f4 [] false w args ∧ laidMetH Tryd.prog laidL w) ∧ sizedMet en Tryd.prog Tryd.f4 (OpenSpec.ofChange Rows.fnCrashRecoverySpec) false w args) (Rows.fnCrashRecoverySpec.post en Tryd.prog Tryd.f4 false true false false) := by
  refine returnsInHanded_of_change_and_shaped (C := Tryd.checked) (X := fun w _ => laidMetH Tryd.prog laidL w) (fun _ _ _ hh h => h.of_heap hh) own started (by kernel_rfl) Tryd.func4
    (ChangeSpec.witness_shaped (enc := en) (C := Tryd.checked) (os := os) (X := fun w _ => laidMetH Tryd.prog laidL w) false (World.doorLaid Tryd.prog 400 os) #[.slice none 0 0] 8 rfl (World.shaped_of_RefB (by kernel_rfl) (by kernel_rfl)) (by kernel_rfl) (by kernel_rfl) (by kernel_rfl) (door_met os _)) ?_
  intro W base args ds gs before hval0 hW hcnd hsz0 hL hsh _
  obtain ⟨K, hKo, hKw⟩ := kok hsh hL
  haveI hK : Nonempty (KOk K) := ⟨hKo⟩
  have hsz : (DataW.weightsEach Tryd.prog (Tryd.f4.params.toList ++ Rows.fnCrashRecoverySpec.plain.varTypes Tryd.prog) (ds ++ gs)).all (· ≤ reachBytes) = true := hsz0
  have hval : ∀ (j : Nat) t v, Tryd.f4.params[j]? = some t → args[j]? = some v → Value.okWide Tryd.prog W .any base t v := hval0
  have hW' := hW
  obtain ⟨p, q, hA0, hV, rfl, hfz, hnd⟩ := hW
  have hA : DataW.TrodAll en Tryd.prog W 0 (fun _ => true) true Tryd.f4.params.toList args.toList ds p := hA0
  rw [Tryd.params4] at hA hval hsz
  obtain ⟨v0, vs0, d0, ds0, p0, q0, hargs, rfl, rfl, h0, r0⟩ := trodAll_cons hA
  obtain ⟨rfl, rfl, rfl⟩ := trodAll_nil r0
  obtain rfl : args = #[v0] := by cases args; simp_all
  obtain ⟨rfl, rfl⟩ := trodVars_none hV
  have wts : ∀ (j : Nat) t d, ([30] : List Nat)[j]? = some t → [d0][j]? = some d → ∀ m ∈ d.weights Tryd.prog t, m ≤ reachBytes := by
    intro j t d ht hd m hm
    have := List.all_eq_true.1 hsz m (DataW.weights_mem_each (j := j) (t := t) (d := d) (by have := List.getElem?_eq_some_iff.1 ht; simp only [List.getElem?_append_left this.1]; exact ht) (by have := List.getElem?_eq_some_iff.1 hd; simp only [List.getElem?_append_left this.1]; exact hd) m hm)
    simpa using this
  have lt0 : ∀ x ∈ p0, x.block < W.heap.size := by obtain ⟨m, hm⟩ := h0; exact DataW.trod_lt m _ _ _ hm
  have k0 := h0
  have i0 : Inp (cx K) [] (fun _ => none) W := Inp.startK (fun _ => rfl) W hKw
  obtain ⟨a0, l0, c0, rfl⟩ := okWide_slice Tryd.underlying30 (hval 0 30 v0 rfl rfl)
  obtain ⟨f0, t0⟩ := h0
  replace t0 : DataW.trod en Tryd.prog W 0 (fun _ => true) true f0 30 [.slice a0 l0 c0] = some (d0, p0) := t0
  obtain ⟨ι0, ac0, u0, xs0, e0, i1, s0, g0, rd0, q0, m0⟩ := i0.slice (X := (cx K)) (x := (d0, p0)) (enc := eC) lC (by decide) Tryd.underlying30 (by kernel_rfl) dec5 (wts 0 30 d0 rfl rfl) t0
  replace m0 : xs0.length * Tryd.prog.bytesOf 5 ≤ reachBytes := m0
  rw [show Tryd.prog.bytesOf 5 = 1 by kernel_rfl] at m0; unfold reachBytes at m0
  have n0 : xs0.length ≤ 2 ^ 47 := by omega
  obtain rfl : Value.slice a0 l0 c0 = u0 := by simpa [Value.cells] using e0
  have r0 := rd0
  refine ((c4 _ r0 n0).law i1 (.cons g0 .nil)).mono fun e W' ⟨he, bel⟩ => ?_
  subst he
  exact ⟨_, rfl, _, _, _, [], _, [], hW', trodAll_mk1 (shut_bool Tryd.underlying4 _), (trodAll_cons_mk (Below.trod laidOut (by kernel_rfl) (of_decide_eq_true (by kernel_rfl)) k0 bel lt0) trodAll_mk0), rfl, bel.frame _, fun h => by cases h⟩
theorem over : Rows.fnCrashRecoveryRow.holds Tryd.pinned (OpenSpec.ofChange Rows.fnCrashRecoverySpec) :=
  OpenClaim.holds_of_wide 4 Tryd.f4 rfl rfl rfl rfl rfl rfl rfl ⟨rfl, rfl, rfl, rfl, rfl⟩ rfl rfl rfl rfl rfl (by kernel_rfl) Tryd.func4 (by kernel_rfl)
    (of_decide_eq_true (by kernel_rfl)) (by unfold Func.isWrapper; first | (rw [if_pos (by decide +kernel)]; kernel_rfl) | (rw [if_neg (by decide +kernel)]; exact ⟨rfl, rfl⟩))
    (fun os started H enc _ => lifted os started H enc)
/-- The tied card, under a short name, for the claim. -/
theorem fnCrashRecovery_holds : Rows.FnCrashRecoveryCardSaid :=
  Claim7.holds_tied_plain_at .later [] [.data, .data, .data] true Rows.fnCrashRecoveryCard.stood.harness false over (fun _ h => by cases h) (by kernel_rfl) (fun _ h => by cases h) fnCrashRecovery_row_tie rfl ⟨rfl, rfl⟩ (by kernel_rfl) rfl
    (fun f fn hf hfn => by
      obtain rfl : f = 4 := Option.some.inj ((show Tryd.prog.funcNamed Rows.fnCrashRecoveryRow.func = some 4 by kernel_rfl).symm.trans hf) |>.symm
      obtain rfl : fn = Tryd.f4 := (Option.some.inj (Tryd.func4.symm.trans hfn)).symm
      exact ⟨by kernel_rfl, fun j t ht => by
        rw [Tryd.params4] at ht
        have hm : t ∈ [30] := by simpa using Array.mem_of_getElem? ht
        have hall : ([30].all fun u => !Tryd.prog.wantsStandIn u) = true := by kernel_rfl
        exact (show Tryd.prog.wantsStandIn t = false by simpa using List.all_eq_true.1 hall t hm)⟩)
    (by kernel_rfl)
#print axioms fnCrashRecovery_holds
end Go.Proofs.YtfdopoijhjbamaaDoor
