/-
  No cell of these rows narrows 'for every input' (looked for: loops, veiled, ifaces, maps, wideKeys, modest, calm, conditions, laid).
  DERIVED. THE GIVEN ROWS OF THIS SEAT. 4 by the template 'for every input the law returns true; each argument reads behind the call as it read before'; 0 by the template 'total and deterministic' (their statements: YtjjoigokeicneaaTotals.lean).
  GIVEN WITH THE SEED: the statements are not yours to turn. If you find one false, say at which input.
  Laid BY PROGRAM, IN A SANDBOX (cutbox-rows.mjs): the forced cells as the released guide's own fill.sh prints them over the translation f32991face56b8dd… (all of the seat's roots in one cut). By AI agents, Wed Nov 11 2026. No macro, syntax, notation, axiom, sorry.
-/
import Derived.Test.YtjjoigokeicneaaChecked
import GoSem.Claim
import GoSem.ClaimJoined
import GoSem.ClaimMapViews
import Derived.JoinedTies
import Derived.KernelRfl
namespace Go.Proofs.Ytjjoigokeicneaa
/- THE CELL 'sum', in the pinned program and in every row, IS THE sha256 OF THE DUMP (.gsa) THAT YtjjoigokeicneaaProg.lean LOADS. Nothing in Lean hashes anything: it is a label: what it is worth is what the hold of that sum in a sandbox is worth. -/
noncomputable def Try.pinned : Pinned := { name := "ytjjoigokeicneaa", sum := "f32991face56b8ddef20d02d05e164d83f587f07bb40b33f45a9eab9826ba968", checked := Try.checked }
namespace Rows
def none {H : Type} : Left H := { results := [], args := [] }

/-- 'laws.FnExactTenDayMeans': WHATEVER THE INPUT: true; the input reads as it did. -/
def fnExactTenDayMeansSpec : ChangeSpec := { name := "fnExactTenDayMeans", fn := fun _ => fun
  | [d] => { results := [.lit (.bool true)], args := [d] }
  | _ => none }
def fnExactTenDayMeansRow : OpenClaim := { program := "ytjjoigokeicneaa", sum := "f32991face56b8ddef20d02d05e164d83f587f07bb40b33f45a9eab9826ba968", func := "loop.example/g00889/laws.FnExactTenDayMeans", spec := "fnExactTenDayMeans", unfollowed := true, recurses := true, apart := false }
def FnExactTenDayMeansSaid : Prop := fnExactTenDayMeansRow.holds Try.pinned (OpenSpec.ofChange fnExactTenDayMeansSpec)

/-- ITS FALSE NEIGHBOUR: 'it returns false'. Refute it at one input. -/
def fnExactTenDayMeansWrong : ChangeSpec := { name := "fnExactTenDayMeans", fn := fun _ => fun
  | [d] => { results := [.lit (.bool false)], args := [d] }
  | _ => none }
def FnExactTenDayMeansWrongFalsely : Prop := fnExactTenDayMeansRow.holds Try.pinned (OpenSpec.ofChange fnExactTenDayMeansWrong)

/-- 'laws.FnSpells': WHATEVER THE INPUT: true; the input reads as it did. -/
def fnSpellsSpec : ChangeSpec := { name := "fnSpells", fn := fun _ => fun
  | [d] => { results := [.lit (.bool true)], args := [d] }
  | _ => none }
def fnSpellsRow : OpenClaim := { program := "ytjjoigokeicneaa", sum := "f32991face56b8ddef20d02d05e164d83f587f07bb40b33f45a9eab9826ba968", func := "loop.example/g00889/laws.FnSpells", spec := "fnSpells", unfollowed := true, recurses := true, apart := false }
def FnSpellsSaid : Prop := fnSpellsRow.holds Try.pinned (OpenSpec.ofChange fnSpellsSpec)

/-- ITS FALSE NEIGHBOUR: 'it returns false'. Refute it at one input. -/
def fnSpellsWrong : ChangeSpec := { name := "fnSpells", fn := fun _ => fun
  | [d] => { results := [.lit (.bool false)], args := [d] }
  | _ => none }
def FnSpellsWrongFalsely : Prop := fnSpellsRow.holds Try.pinned (OpenSpec.ofChange fnSpellsWrong)

/-- 'laws.FnExactCopyRegion': WHATEVER THE INPUT: true; the input reads as it did. -/
def fnExactCopyRegionSpec : ChangeSpec := { name := "fnExactCopyRegion", fn := fun _ => fun
  | [d1, d2, d3] => { results := [.lit (.bool true)], args := [d1, d2, d3] }
  | _ => none }
def fnExactCopyRegionRow : OpenClaim := { program := "ytjjoigokeicneaa", sum := "f32991face56b8ddef20d02d05e164d83f587f07bb40b33f45a9eab9826ba968", func := "loop.example/g00889/laws.FnExactCopyRegion", spec := "fnExactCopyRegion", unfollowed := true, recurses := true, apart := false }
def FnExactCopyRegionSaid : Prop := fnExactCopyRegionRow.holds Try.pinned (OpenSpec.ofChange fnExactCopyRegionSpec)

/-- ITS FALSE NEIGHBOUR: 'it returns false'. Refute it at one input. -/
def fnExactCopyRegionWrong : ChangeSpec := { name := "fnExactCopyRegion", fn := fun _ => fun
  | [d1, d2, d3] => { results := [.lit (.bool false)], args := [d1, d2, d3] }
  | _ => none }
def FnExactCopyRegionWrongFalsely : Prop := fnExactCopyRegionRow.holds Try.pinned (OpenSpec.ofChange fnExactCopyRegionWrong)

/-- 'laws.FnEdits': WHATEVER THE INPUT: true; the input reads as it did. -/
def fnEditsSpec : ChangeSpec := { name := "fnEdits", fn := fun _ => fun
  | [d] => { results := [.lit (.bool true)], args := [d] }
  | _ => none }
def fnEditsRow : OpenClaim := { program := "ytjjoigokeicneaa", sum := "f32991face56b8ddef20d02d05e164d83f587f07bb40b33f45a9eab9826ba968", func := "loop.example/g00889/laws.FnEdits", spec := "fnEdits", unfollowed := true, recurses := true, apart := false }
def FnEditsSaid : Prop := fnEditsRow.holds Try.pinned (OpenSpec.ofChange fnEditsSpec)

/-- ITS FALSE NEIGHBOUR: 'it returns false'. Refute it at one input. -/
def fnEditsWrong : ChangeSpec := { name := "fnEdits", fn := fun _ => fun
  | [d] => { results := [.lit (.bool false)], args := [d] }
  | _ => none }
def FnEditsWrongFalsely : Prop := fnEditsRow.holds Try.pinned (OpenSpec.ofChange fnEditsWrong)

/- THE SECOND FORM. 'bulk': how many values and letters a reading holds, each counted each time it is reached (what is shared counts as often as it is met; a slice's spare places count too). A statement '..UptoSaid' is the law's where the arguments, and the package variables that the reading takes, are together of bulk at most 1048576: NARROWER than '..Said'. Prove '..Said' where nothing that the law and all that it calls make is longer than what came in: it says more and counts as full. Else prove '..UptoSaid'. A law counts once. -/
mutual
def uptoBulk {H : Type} : DataW H → Nat
  | .lit (.string bytes) => bytes.length + 1
  | .lit _ => 1
  | .nil => 1
  | .ptr d => uptoBulk d + 1
  | .slice elems spare => uptoBulkAll elems + uptoBulkAll spare + 1
  | .agg parts => uptoBulkAll parts + 1
  | .iface _ d => uptoBulk d + 1
  | .map entries => uptoBulkEntries entries + 1
  | .held _ => 1
def uptoBulkAll {H : Type} : List (DataW H) → Nat
  | [] => 0
  | d :: r => uptoBulk d + uptoBulkAll r
def uptoBulkEntries {H : Type} : List (Lit × DataW H) → Nat
  | [] => 0
  | x :: r => uptoBulkEntry x + uptoBulkEntries r
def uptoBulkEntry {H : Type} : Lit × DataW H → Nat
  | (.string bytes, d) => bytes.length + uptoBulk d + 1
  | (_, d) => uptoBulk d + 1
 end
def uptoSmall : (H : Type) → List (DataW H) → Bool := fun _ ds => decide (uptoBulkAll ds ≤ 1048576)
def OpenSpec.upto (s : _root_.Go.ChangeSpec) : _root_.Go.OpenSpec := { _root_.Go.OpenSpec.ofChange s with cond := some uptoSmall }

/-- 'laws.FnExactTenDayMeans', WHERE WHAT IT READS IS OF BULK AT MOST 1048576: true; the input reads as it did. -/
def fnExactTenDayMeansUptoRow : OpenClaim := { program := "ytjjoigokeicneaa", sum := "f32991face56b8ddef20d02d05e164d83f587f07bb40b33f45a9eab9826ba968", func := "loop.example/g00889/laws.FnExactTenDayMeans", spec := "fnExactTenDayMeans", unfollowed := true, recurses := true, apart := false, narrowed := true }
def FnExactTenDayMeansUptoSaid : Prop := fnExactTenDayMeansUptoRow.holds Try.pinned (OpenSpec.upto fnExactTenDayMeansSpec)

/-- 'laws.FnSpells', WHERE WHAT IT READS IS OF BULK AT MOST 1048576: true; the input reads as it did. -/
def fnSpellsUptoRow : OpenClaim := { program := "ytjjoigokeicneaa", sum := "f32991face56b8ddef20d02d05e164d83f587f07bb40b33f45a9eab9826ba968", func := "loop.example/g00889/laws.FnSpells", spec := "fnSpells", unfollowed := true, recurses := true, apart := false, narrowed := true }
def FnSpellsUptoSaid : Prop := fnSpellsUptoRow.holds Try.pinned (OpenSpec.upto fnSpellsSpec)

/-- 'laws.FnExactCopyRegion', WHERE WHAT IT READS IS OF BULK AT MOST 1048576: true; the input reads as it did. -/
def fnExactCopyRegionUptoRow : OpenClaim := { program := "ytjjoigokeicneaa", sum := "f32991face56b8ddef20d02d05e164d83f587f07bb40b33f45a9eab9826ba968", func := "loop.example/g00889/laws.FnExactCopyRegion", spec := "fnExactCopyRegion", unfollowed := true, recurses := true, apart := false, narrowed := true }
def FnExactCopyRegionUptoSaid : Prop := fnExactCopyRegionUptoRow.holds Try.pinned (OpenSpec.upto fnExactCopyRegionSpec)

/-- 'laws.FnEdits', WHERE WHAT IT READS IS OF BULK AT MOST 1048576: true; the input reads as it did. -/
def fnEditsUptoRow : OpenClaim := { program := "ytjjoigokeicneaa", sum := "f32991face56b8ddef20d02d05e164d83f587f07bb40b33f45a9eab9826ba968", func := "loop.example/g00889/laws.FnEdits", spec := "fnEdits", unfollowed := true, recurses := true, apart := false, narrowed := true }
def FnEditsUptoSaid : Prop := fnEditsUptoRow.holds Try.pinned (OpenSpec.upto fnEditsSpec)

end Rows
end Go.Proofs.Ytjjoigokeicneaa
