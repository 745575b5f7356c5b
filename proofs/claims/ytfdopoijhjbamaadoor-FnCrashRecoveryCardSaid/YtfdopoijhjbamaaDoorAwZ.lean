/- Functions of the library by the shelf's contracts; objects that stay. -/
import Derived.Test.YtfdopoijhjbamaaDoorAwW
import Derived.Test.YtfdopoijhjbamaaDoorAwV
import Derived.HandedShaped
import Derived.Lib.AppendIntMem
import Derived.Lib.LaidTab
namespace Go.Aw
open Go.RowKit
set_option linter.unusedVariables false
set_option linter.unusedSimpArgs false
section
variable {X : Cx} {H : Heap} {w : World}

theorem Inv.below {ι : Inj} {w' : World} (h : Inv X ι H w) (b : Below w.heap.size w w') : Inv X ι H w' where
  fix p hp := by
    have := h.fix p hp
    exact (b.block p.1 (Array.getElem?_eq_some_iff.1 this).1).trans this
  glo := h.glo
  blk bd L k hb hk := by
    obtain ⟨arr, t, fr, h1, h2⟩ := h.blk bd L k hb hk
    exact ⟨arr, t, fr, (b.block L.blk (Array.getElem?_eq_some_iff.1 h1).1).trans h1, h2⟩
  ownK := h.ownK
  sep := h.sep
/-- A contract out of one that says 'Below'. -/
theorem ACalls.of_below {f : FuncId} {args : List AV} {rs : AT} (h : ∀ (ι : Inj) (w : World) (vs : Array Value), Inv X ι H w → A2 (RV ι) args vs.toList → Calls X.P f vs w fun e w' => ∃ r, e = .returned r ∧ RT ι rs r ∧ Below w.heap.size w w') : ACalls X f args H rs H := by
  intro ι w vs hi hn ha
  refine (h ι w vs hi ha).mono ?_
  rintro e w' ⟨r, rfl, hr, b⟩
  exact ⟨ι, r, rfl, hr, ⟨hi.below b, Le.refl _ _, fun _ _ => rfl, fun n L h1 h2 => by omega, ⟨b.os, b.tape, b.output, b.size, fun β hβ _ => b.block β hβ⟩⟩⟩

/-- Strings as arguments. -/
theorem args1 {ι : Inj} {x : Value} {vs : Array Value} (h : A2 (RV ι) [.c (.s x)] vs.toList) : vs = #[x] := by
  obtain ⟨vs⟩ := vs
  cases h with
  | cons h1 h2 => cases h2; obtain ⟨rfl, _⟩ := h1; rfl
theorem args2 {ι : Inj} {x y : Value} {vs : Array Value} (h : A2 (RV ι) [.c (.s x), .c (.s y)] vs.toList) : vs = #[x, y] := by
  obtain ⟨vs⟩ := vs
  cases h with
  | cons h1 h2 => cases h2 with | cons h3 h4 => cases h4; obtain ⟨rfl, _⟩ := h1; obtain ⟨rfl, _⟩ := h3; rfl

/-- What came in, over objects that stay. -/
theorem Inp.startK (hG : ∀ n, X.G n = none) (w : World) (hK : ∀ p ∈ X.K, w.heap[p.1]? = some p.2) : Inp X [] (fun _ => none) w :=
  ⟨⟨hK, (fun n => by rw [hG n]; rfl), (fun b L k h => by cases h), (fun b L k h => by cases h), (fun b b' L L' k k' h => by cases h)⟩, (fun _ _ => rfl), fun b k h => by
    cases b with
    | l n => simp [hget] at h
    | g n => simp [hget, hG] at h⟩
end

variable {H : Type} {enc : TypeId × Value → H}
/-- The plain wrap with a condition on the world, its shape and the reach. -/
theorem returnsInHanded_of_change_and_shaped {a : Assume} {C : Checked} {os : Os} {f : FuncId} {fn : Func} {s : ChangeSpec} {conds : List PathCond} {apart fresh handsOn again : Bool} {X : World → Array Value → Prop}
    (hX : ∀ (w w' : World) (args : Array Value), w.heap = w'.heap → X w args → X w' args)
    (own : ownKnob C.prog.godebug = none) (started : os.Started) (noInit : C.prog.inits.idxOf? f = none) (hfn : C.prog.funcs[f]? = some fn)
    (witness : ∃ (w : World) (tape : Tape) (i : Input), w.os = os ∧ (w.forCall tape i).Shaped C.prog ∧ i.vars = [] ∧ Input.okWide C.prog (w.forCall tape i) .any w.heap.size f i ∧
      ((s.pre enc C.prog fn conds apart (w.forCall tape i).memory i.args ∧ X (w.forCall tape i).memory i.args) ∧ sizedMet enc C.prog fn (OpenSpec.ofChange s) apart (w.forCall tape i).memory i.args) ∧ a.holds C.prog (lone (Frame.enter C.prog f i.args .normal) [] (w.forCall tape i)))
    (contract : ∀ (W : World) (base : Nat) (args : Array Value) (ds gs : List (DataW H)) (before : List MemPlace),
      (∀ (j : Nat) t v, fn.params[j]? = some t → args[j]? = some v → Value.okWide C.prog W .any base t v) →
      DataW.Whole enc C.prog fn.params.toList s.vars apart W args.toList ds gs before →
      conds.all (PathCond.test C.prog ⟨fn.params.toList, ds, s.plain.varTypes C.prog, gs⟩) = true →
      (DataW.weightsEach C.prog (fn.params.toList ++ s.plain.varTypes C.prog) (ds ++ gs)).all (· ≤ reachBytes) = true → X W args → W.ShapedOpen C.prog →
      a.holds C.prog (lone (Frame.enter C.prog f args .normal) [] W) →
      Calls C.prog f args W fun e W' => ∃ v, e = .returned v ∧ s.post enc C.prog fn apart fresh handsOn again W args v W') :
    ReturnsInHanded a C os f .any (fun w args => (s.pre enc C.prog fn conds apart w args ∧ X w args) ∧ sizedMet enc C.prog fn (OpenSpec.ofChange s) apart w args) (s.post enc C.prog fn apart fresh handsOn again) := by
  refine returnsInHanded_of_calls own started noInit witness ?_
  intro w tape i _ hsh _ hok hpre hholds
  obtain ⟨_, _, _, fn', hfn', _, _, _, _, hval⟩ := hok
  have e : fn' = fn := Option.some.inj (hfn'.symm.trans hfn)
  subst e
  obtain ⟨⟨⟨ds, gs, before, hw, hc⟩, hx⟩, hz⟩ := hpre
  have hw' := DataW.Whole.of_heap (w' := w.forCall tape i) (by rfl) hw
  refine (contract (w.forCall tape i) w.heap.size i.args ds gs before hval hw' hc (hz.weights hw) (hX _ _ _ (by rfl) hx) hsh hholds).mono fun e W' ⟨v, he, hp⟩ => ?_
  subst he
  exact ChangeSpec.post_blind hp
end Go.Aw
