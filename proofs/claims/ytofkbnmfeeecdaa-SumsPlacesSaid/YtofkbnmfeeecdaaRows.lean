/-
  No cell of these rows narrows 'for every input' (looked for: loops, veiled, ifaces, maps, wideKeys, modest, calm, conditions, laid).
  DERIVED. THE GIVEN ROWS OF THIS SEAT. 7 by the template 'for every input the law returns true; each argument reads behind the call as it read before'; 0 by the template 'total and deterministic' (their statements: YtofkbnmfeeecdaaTotals.lean).
  GIVEN WITH THE SEED: the statements are not yours to turn. If you find one false, say at which input.
  Laid BY PROGRAM, IN A SANDBOX (cutbox-rows.mjs): the forced cells as the released guide's own fill.sh prints them over the translation e69ae8a7d500619e… (all of the seat's roots in one cut). By AI agents, Wed Nov 11 2026. No macro, syntax, notation, axiom, sorry.
-/
import Derived.Test.YtofkbnmfeeecdaaChecked
import GoSem.Claim
import GoSem.ClaimJoined
import GoSem.ClaimMapViews
import Derived.JoinedTies
import Derived.KernelRfl
namespace Go.Proofs.Ytofkbnmfeeecdaa
/- THE CELL 'sum', in the pinned program and in every row, IS THE sha256 OF THE DUMP (.gsa) THAT YtofkbnmfeeecdaaProg.lean LOADS. Nothing in Lean hashes anything: it is a label: what it is worth is what the hold of that sum in a sandbox is worth. -/
noncomputable def Try.pinned : Pinned := { name := "ytofkbnmfeeecdaa", sum := "e69ae8a7d500619e0adcbadd8e8e59bc48cc1414f827d3191afee8cac9171be9", checked := Try.checked }
namespace Rows
def none {H : Type} : Left H := { results := [], args := [] }

/-- 'spoorlaw02.SumsOf': WHATEVER THE INPUT: true; the input reads as it did. -/
def sumsOfSpec : ChangeSpec := { name := "sumsOf", fn := fun _ => fun
  | [d1, d2] => { results := [.lit (.bool true)], args := [d1, d2] }
  | _ => none }
def sumsOfRow : OpenClaim := { program := "ytofkbnmfeeecdaa", sum := "e69ae8a7d500619e0adcbadd8e8e59bc48cc1414f827d3191afee8cac9171be9", func := "spoor/spoorlaw02.SumsOf", spec := "sumsOf", unfollowed := true, recurses := true, apart := false }
def SumsOfSaid : Prop := sumsOfRow.holds Try.pinned (OpenSpec.ofChange sumsOfSpec)

/-- ITS FALSE NEIGHBOUR: 'it returns false'. Refute it at one input. -/
def sumsOfWrong : ChangeSpec := { name := "sumsOf", fn := fun _ => fun
  | [d1, d2] => { results := [.lit (.bool false)], args := [d1, d2] }
  | _ => none }
def SumsOfWrongFalsely : Prop := sumsOfRow.holds Try.pinned (OpenSpec.ofChange sumsOfWrong)

/-- 'spoorlaw02.SumsRoll': WHATEVER THE INPUT: true; the input reads as it did. -/
def sumsRollSpec : ChangeSpec := { name := "sumsRoll", fn := fun _ => fun
  | [d1, d2, d3] => { results := [.lit (.bool true)], args := [d1, d2, d3] }
  | _ => none }
def sumsRollRow : OpenClaim := { program := "ytofkbnmfeeecdaa", sum := "e69ae8a7d500619e0adcbadd8e8e59bc48cc1414f827d3191afee8cac9171be9", func := "spoor/spoorlaw02.SumsRoll", spec := "sumsRoll", unfollowed := true, recurses := true, apart := false }
def SumsRollSaid : Prop := sumsRollRow.holds Try.pinned (OpenSpec.ofChange sumsRollSpec)

/-- ITS FALSE NEIGHBOUR: 'it returns false'. Refute it at one input. -/
def sumsRollWrong : ChangeSpec := { name := "sumsRoll", fn := fun _ => fun
  | [d1, d2, d3] => { results := [.lit (.bool false)], args := [d1, d2, d3] }
  | _ => none }
def SumsRollWrongFalsely : Prop := sumsRollRow.holds Try.pinned (OpenSpec.ofChange sumsRollWrong)

/-- 'spoorlaw02.SumsJoin': WHATEVER THE INPUT: true; the input reads as it did. -/
def sumsJoinSpec : ChangeSpec := { name := "sumsJoin", fn := fun _ => fun
  | [d1, d2] => { results := [.lit (.bool true)], args := [d1, d2] }
  | _ => none }
def sumsJoinRow : OpenClaim := { program := "ytofkbnmfeeecdaa", sum := "e69ae8a7d500619e0adcbadd8e8e59bc48cc1414f827d3191afee8cac9171be9", func := "spoor/spoorlaw02.SumsJoin", spec := "sumsJoin", unfollowed := true, recurses := true, apart := false }
def SumsJoinSaid : Prop := sumsJoinRow.holds Try.pinned (OpenSpec.ofChange sumsJoinSpec)

/-- ITS FALSE NEIGHBOUR: 'it returns false'. Refute it at one input. -/
def sumsJoinWrong : ChangeSpec := { name := "sumsJoin", fn := fun _ => fun
  | [d1, d2] => { results := [.lit (.bool false)], args := [d1, d2] }
  | _ => none }
def SumsJoinWrongFalsely : Prop := sumsJoinRow.holds Try.pinned (OpenSpec.ofChange sumsJoinWrong)

/-- 'spoorlaw02.SumsWindow': WHATEVER THE INPUT: true; the input reads as it did. -/
def sumsWindowSpec : ChangeSpec := { name := "sumsWindow", fn := fun _ => fun
  | [d1, d2] => { results := [.lit (.bool true)], args := [d1, d2] }
  | _ => none }
def sumsWindowRow : OpenClaim := { program := "ytofkbnmfeeecdaa", sum := "e69ae8a7d500619e0adcbadd8e8e59bc48cc1414f827d3191afee8cac9171be9", func := "spoor/spoorlaw02.SumsWindow", spec := "sumsWindow", unfollowed := true, recurses := true, apart := false }
def SumsWindowSaid : Prop := sumsWindowRow.holds Try.pinned (OpenSpec.ofChange sumsWindowSpec)

/-- ITS FALSE NEIGHBOUR: 'it returns false'. Refute it at one input. -/
def sumsWindowWrong : ChangeSpec := { name := "sumsWindow", fn := fun _ => fun
  | [d1, d2] => { results := [.lit (.bool false)], args := [d1, d2] }
  | _ => none }
def SumsWindowWrongFalsely : Prop := sumsWindowRow.holds Try.pinned (OpenSpec.ofChange sumsWindowWrong)

/-- 'spoorlaw02.SumsOne': WHATEVER THE INPUT: true; the input reads as it did. -/
def sumsOneSpec : ChangeSpec := { name := "sumsOne", fn := fun _ => fun
  | [d1, d2, d3] => { results := [.lit (.bool true)], args := [d1, d2, d3] }
  | _ => none }
def sumsOneRow : OpenClaim := { program := "ytofkbnmfeeecdaa", sum := "e69ae8a7d500619e0adcbadd8e8e59bc48cc1414f827d3191afee8cac9171be9", func := "spoor/spoorlaw02.SumsOne", spec := "sumsOne", unfollowed := true, recurses := true, apart := false }
def SumsOneSaid : Prop := sumsOneRow.holds Try.pinned (OpenSpec.ofChange sumsOneSpec)

/-- ITS FALSE NEIGHBOUR: 'it returns false'. Refute it at one input. -/
def sumsOneWrong : ChangeSpec := { name := "sumsOne", fn := fun _ => fun
  | [d1, d2, d3] => { results := [.lit (.bool false)], args := [d1, d2, d3] }
  | _ => none }
def SumsOneWrongFalsely : Prop := sumsOneRow.holds Try.pinned (OpenSpec.ofChange sumsOneWrong)

/-- 'spoorlaw02.SumsPlaces': WHATEVER THE INPUT: true; the input reads as it did. -/
def sumsPlacesSpec : ChangeSpec := { name := "sumsPlaces", fn := fun _ => fun
  | [d1, d2, d3] => { results := [.lit (.bool true)], args := [d1, d2, d3] }
  | _ => none }
def sumsPlacesRow : OpenClaim := { program := "ytofkbnmfeeecdaa", sum := "e69ae8a7d500619e0adcbadd8e8e59bc48cc1414f827d3191afee8cac9171be9", func := "spoor/spoorlaw02.SumsPlaces", spec := "sumsPlaces", unfollowed := true, recurses := true, apart := false }
def SumsPlacesSaid : Prop := sumsPlacesRow.holds Try.pinned (OpenSpec.ofChange sumsPlacesSpec)

/-- ITS FALSE NEIGHBOUR: 'it returns false'. Refute it at one input. -/
def sumsPlacesWrong : ChangeSpec := { name := "sumsPlaces", fn := fun _ => fun
  | [d1, d2, d3] => { results := [.lit (.bool false)], args := [d1, d2, d3] }
  | _ => none }
def SumsPlacesWrongFalsely : Prop := sumsPlacesRow.holds Try.pinned (OpenSpec.ofChange sumsPlacesWrong)

/-- 'spoorlaw02.SumsBytes': WHATEVER THE INPUT: true; the input reads as it did. -/
def sumsBytesSpec : ChangeSpec := { name := "sumsBytes", fn := fun _ => fun
  | [d1, d2] => { results := [.lit (.bool true)], args := [d1, d2] }
  | _ => none }
def sumsBytesRow : OpenClaim := { program := "ytofkbnmfeeecdaa", sum := "e69ae8a7d500619e0adcbadd8e8e59bc48cc1414f827d3191afee8cac9171be9", func := "spoor/spoorlaw02.SumsBytes", spec := "sumsBytes", unfollowed := true, recurses := true, apart := false }
def SumsBytesSaid : Prop := sumsBytesRow.holds Try.pinned (OpenSpec.ofChange sumsBytesSpec)

/-- ITS FALSE NEIGHBOUR: 'it returns false'. Refute it at one input. -/
def sumsBytesWrong : ChangeSpec := { name := "sumsBytes", fn := fun _ => fun
  | [d1, d2] => { results := [.lit (.bool false)], args := [d1, d2] }
  | _ => none }
def SumsBytesWrongFalsely : Prop := sumsBytesRow.holds Try.pinned (OpenSpec.ofChange sumsBytesWrong)

/- THE SECOND FORM. 'bulk': how many values and letters a reading holds, each counted each time it is reached (what is shared counts as often as it is met; a slice's spare places count too). A statement '..UptoSaid' is the law's where the arguments, and the package variables that the reading takes, are together of bulk at most 1048576: NARROWER than '..Said'. Prove '..Said' where nothing that the law and all that it calls make is longer than what came in: it says more and counts as full. Else prove '..UptoSaid'. A law counts once. -/
mutual
def uptoBulk {H : Type} : DataW H → Nat
  | .lit (.string bytes) => bytes.length + 1
  | .lit _ => 1
  | .nil => 1
  | .ptr d => uptoBulk d + 1
  | .slice elems spare => uptoBulkAll elems + uptoBulkAll spare + 1
  | .agg parts => uptoBulkAll parts + 1
  | .iface _ d => uptoBulk d + 1
  | .map entries => uptoBulkEntries entries + 1
  | .held _ => 1
def uptoBulkAll {H : Type} : List (DataW H) → Nat
  | [] => 0
  | d :: r => uptoBulk d + uptoBulkAll r
def uptoBulkEntries {H : Type} : List (Lit × DataW H) → Nat
  | [] => 0
  | x :: r => uptoBulkEntry x + uptoBulkEntries r
def uptoBulkEntry {H : Type} : Lit × DataW H → Nat
  | (.string bytes, d) => bytes.length + uptoBulk d + 1
  | (_, d) => uptoBulk d + 1
 end
def uptoSmall : (H : Type) → List (DataW H) → Bool := fun _ ds => decide (uptoBulkAll ds ≤ 1048576)
def OpenSpec.upto (s : _root_.Go.ChangeSpec) : _root_.Go.OpenSpec := { _root_.Go.OpenSpec.ofChange s with cond := some uptoSmall }

/-- 'spoorlaw02.SumsOf', WHERE WHAT IT READS IS OF BULK AT MOST 1048576: true; the input reads as it did. -/
def sumsOfUptoRow : OpenClaim := { program := "ytofkbnmfeeecdaa", sum := "e69ae8a7d500619e0adcbadd8e8e59bc48cc1414f827d3191afee8cac9171be9", func := "spoor/spoorlaw02.SumsOf", spec := "sumsOf", unfollowed := true, recurses := true, apart := false, narrowed := true }
def SumsOfUptoSaid : Prop := sumsOfUptoRow.holds Try.pinned (OpenSpec.upto sumsOfSpec)

/-- 'spoorlaw02.SumsRoll', WHERE WHAT IT READS IS OF BULK AT MOST 1048576: true; the input reads as it did. -/
def sumsRollUptoRow : OpenClaim := { program := "ytofkbnmfeeecdaa", sum := "e69ae8a7d500619e0adcbadd8e8e59bc48cc1414f827d3191afee8cac9171be9", func := "spoor/spoorlaw02.SumsRoll", spec := "sumsRoll", unfollowed := true, recurses := true, apart := false, narrowed := true }
def SumsRollUptoSaid : Prop := sumsRollUptoRow.holds Try.pinned (OpenSpec.upto sumsRollSpec)

/-- 'spoorlaw02.SumsJoin', WHERE WHAT IT READS IS OF BULK AT MOST 1048576: true; the input reads as it did. -/
def sumsJoinUptoRow : OpenClaim := { program := "ytofkbnmfeeecdaa", sum := "e69ae8a7d500619e0adcbadd8e8e59bc48cc1414f827d3191afee8cac9171be9", func := "spoor/spoorlaw02.SumsJoin", spec := "sumsJoin", unfollowed := true, recurses := true, apart := false, narrowed := true }
def SumsJoinUptoSaid : Prop := sumsJoinUptoRow.holds Try.pinned (OpenSpec.upto sumsJoinSpec)

/-- 'spoorlaw02.SumsWindow', WHERE WHAT IT READS IS OF BULK AT MOST 1048576: true; the input reads as it did. -/
def sumsWindowUptoRow : OpenClaim := { program := "ytofkbnmfeeecdaa", sum := "e69ae8a7d500619e0adcbadd8e8e59bc48cc1414f827d3191afee8cac9171be9", func := "spoor/spoorlaw02.SumsWindow", spec := "sumsWindow", unfollowed := true, recurses := true, apart := false, narrowed := true }
def SumsWindowUptoSaid : Prop := sumsWindowUptoRow.holds Try.pinned (OpenSpec.upto sumsWindowSpec)

/-- 'spoorlaw02.SumsOne', WHERE WHAT IT READS IS OF BULK AT MOST 1048576: true; the input reads as it did. -/
def sumsOneUptoRow : OpenClaim := { program := "ytofkbnmfeeecdaa", sum := "e69ae8a7d500619e0adcbadd8e8e59bc48cc1414f827d3191afee8cac9171be9", func := "spoor/spoorlaw02.SumsOne", spec := "sumsOne", unfollowed := true, recurses := true, apart := false, narrowed := true }
def SumsOneUptoSaid : Prop := sumsOneUptoRow.holds Try.pinned (OpenSpec.upto sumsOneSpec)

/-- 'spoorlaw02.SumsPlaces', WHERE WHAT IT READS IS OF BULK AT MOST 1048576: true; the input reads as it did. -/
def sumsPlacesUptoRow : OpenClaim := { program := "ytofkbnmfeeecdaa", sum := "e69ae8a7d500619e0adcbadd8e8e59bc48cc1414f827d3191afee8cac9171be9", func := "spoor/spoorlaw02.SumsPlaces", spec := "sumsPlaces", unfollowed := true, recurses := true, apart := false, narrowed := true }
def SumsPlacesUptoSaid : Prop := sumsPlacesUptoRow.holds Try.pinned (OpenSpec.upto sumsPlacesSpec)

/-- 'spoorlaw02.SumsBytes', WHERE WHAT IT READS IS OF BULK AT MOST 1048576: true; the input reads as it did. -/
def sumsBytesUptoRow : OpenClaim := { program := "ytofkbnmfeeecdaa", sum := "e69ae8a7d500619e0adcbadd8e8e59bc48cc1414f827d3191afee8cac9171be9", func := "spoor/spoorlaw02.SumsBytes", spec := "sumsBytes", unfollowed := true, recurses := true, apart := false, narrowed := true }
def SumsBytesUptoSaid : Prop := sumsBytesUptoRow.holds Try.pinned (OpenSpec.upto sumsBytesSpec)

end Rows
end Go.Proofs.Ytofkbnmfeeecdaa
