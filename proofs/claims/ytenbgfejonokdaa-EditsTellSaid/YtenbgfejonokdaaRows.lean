/-
  No cell of these rows narrows 'for every input' (looked for: loops, veiled, ifaces, maps, wideKeys, modest, calm, conditions, laid).
  DERIVED. THE GIVEN ROWS OF THIS SEAT. 12 by the template 'for every input the law returns true; each argument reads behind the call as it read before'; 0 by the template 'total and deterministic' (their statements: YtenbgfejonokdaaTotals.lean).
  GIVEN WITH THE SEED: the statements are not yours to turn. If you find one false, say at which input.
  Laid BY PROGRAM, IN A SANDBOX (cutbox-rows.mjs): the forced cells as the released guide's own fill.sh prints them over the translation 5846a26e1191e5aa… (all of the seat's roots in one cut). By AI agents, Wed Nov 11 2026. No macro, syntax, notation, axiom, sorry.
-/
import Derived.Test.YtenbgfejonokdaaChecked
import GoSem.Claim
import GoSem.ClaimJoined
import GoSem.ClaimMapViews
import Derived.JoinedTies
import Derived.KernelRfl
namespace Go.Proofs.Ytenbgfejonokdaa
/- THE CELL 'sum', in the pinned program and in every row, IS THE sha256 OF THE DUMP (.gsa) THAT YtenbgfejonokdaaProg.lean LOADS. Nothing in Lean hashes anything: it is a label: what it is worth is what the hold of that sum in a sandbox is worth. -/
noncomputable def Try.pinned : Pinned := { name := "ytenbgfejonokdaa", sum := "5846a26e1191e5aabf6c54537fe26de2cc2997bccc48a1d74f9d6cba23c135b3", checked := Try.checked }
namespace Rows
def none {H : Type} : Left H := { results := [], args := [] }

/-- 'spoorlaw13.CursorsBytes': WHATEVER THE INPUT: true; the input reads as it did. -/
def cursorsBytesSpec : ChangeSpec := { name := "cursorsBytes", fn := fun _ => fun
  | [d1, d2] => { results := [.lit (.bool true)], args := [d1, d2] }
  | _ => none }
def cursorsBytesRow : OpenClaim := { program := "ytenbgfejonokdaa", sum := "5846a26e1191e5aabf6c54537fe26de2cc2997bccc48a1d74f9d6cba23c135b3", func := "spoor/spoorlaw13.CursorsBytes", spec := "cursorsBytes", unfollowed := true, recurses := true, apart := false }
def CursorsBytesSaid : Prop := cursorsBytesRow.holds Try.pinned (OpenSpec.ofChange cursorsBytesSpec)

/-- ITS FALSE NEIGHBOUR: 'it returns false'. Refute it at one input. -/
def cursorsBytesWrong : ChangeSpec := { name := "cursorsBytes", fn := fun _ => fun
  | [d1, d2] => { results := [.lit (.bool false)], args := [d1, d2] }
  | _ => none }
def CursorsBytesWrongFalsely : Prop := cursorsBytesRow.holds Try.pinned (OpenSpec.ofChange cursorsBytesWrong)

/-- 'spoorlaw13.CursorsNone': WHATEVER THE INPUT: true; the input reads as it did. -/
def cursorsNoneSpec : ChangeSpec := { name := "cursorsNone", fn := fun _ => fun
  | [d] => { results := [.lit (.bool true)], args := [d] }
  | _ => none }
def cursorsNoneRow : OpenClaim := { program := "ytenbgfejonokdaa", sum := "5846a26e1191e5aabf6c54537fe26de2cc2997bccc48a1d74f9d6cba23c135b3", func := "spoor/spoorlaw13.CursorsNone", spec := "cursorsNone", unfollowed := true, recurses := true, apart := false }
def CursorsNoneSaid : Prop := cursorsNoneRow.holds Try.pinned (OpenSpec.ofChange cursorsNoneSpec)

/-- ITS FALSE NEIGHBOUR: 'it returns false'. Refute it at one input. -/
def cursorsNoneWrong : ChangeSpec := { name := "cursorsNone", fn := fun _ => fun
  | [d] => { results := [.lit (.bool false)], args := [d] }
  | _ => none }
def CursorsNoneWrongFalsely : Prop := cursorsNoneRow.holds Try.pinned (OpenSpec.ofChange cursorsNoneWrong)

/-- 'spoorlaw13.CursorsAlone': WHATEVER THE INPUT: true; the input reads as it did. -/
def cursorsAloneSpec : ChangeSpec := { name := "cursorsAlone", fn := fun _ => fun
  | [d1, d2, d3] => { results := [.lit (.bool true)], args := [d1, d2, d3] }
  | _ => none }
def cursorsAloneRow : OpenClaim := { program := "ytenbgfejonokdaa", sum := "5846a26e1191e5aabf6c54537fe26de2cc2997bccc48a1d74f9d6cba23c135b3", func := "spoor/spoorlaw13.CursorsAlone", spec := "cursorsAlone", unfollowed := true, recurses := true, apart := false }
def CursorsAloneSaid : Prop := cursorsAloneRow.holds Try.pinned (OpenSpec.ofChange cursorsAloneSpec)

/-- ITS FALSE NEIGHBOUR: 'it returns false'. Refute it at one input. -/
def cursorsAloneWrong : ChangeSpec := { name := "cursorsAlone", fn := fun _ => fun
  | [d1, d2, d3] => { results := [.lit (.bool false)], args := [d1, d2, d3] }
  | _ => none }
def CursorsAloneWrongFalsely : Prop := cursorsAloneRow.holds Try.pinned (OpenSpec.ofChange cursorsAloneWrong)

/-- 'spoorlaw13.CursorsTorn': WHATEVER THE INPUT: true; the input reads as it did. -/
def cursorsTornSpec : ChangeSpec := { name := "cursorsTorn", fn := fun _ => fun
  | [d] => { results := [.lit (.bool true)], args := [d] }
  | _ => none }
def cursorsTornRow : OpenClaim := { program := "ytenbgfejonokdaa", sum := "5846a26e1191e5aabf6c54537fe26de2cc2997bccc48a1d74f9d6cba23c135b3", func := "spoor/spoorlaw13.CursorsTorn", spec := "cursorsTorn", unfollowed := true, recurses := true, apart := false }
def CursorsTornSaid : Prop := cursorsTornRow.holds Try.pinned (OpenSpec.ofChange cursorsTornSpec)

/-- ITS FALSE NEIGHBOUR: 'it returns false'. Refute it at one input. -/
def cursorsTornWrong : ChangeSpec := { name := "cursorsTorn", fn := fun _ => fun
  | [d] => { results := [.lit (.bool false)], args := [d] }
  | _ => none }
def CursorsTornWrongFalsely : Prop := cursorsTornRow.holds Try.pinned (OpenSpec.ofChange cursorsTornWrong)

/-- 'spoorlaw13.CursorsBack': WHATEVER THE INPUT: true; the input reads as it did. -/
def cursorsBackSpec : ChangeSpec := { name := "cursorsBack", fn := fun _ => fun
  | [d1, d2, d3] => { results := [.lit (.bool true)], args := [d1, d2, d3] }
  | _ => none }
def cursorsBackRow : OpenClaim := { program := "ytenbgfejonokdaa", sum := "5846a26e1191e5aabf6c54537fe26de2cc2997bccc48a1d74f9d6cba23c135b3", func := "spoor/spoorlaw13.CursorsBack", spec := "cursorsBack", unfollowed := true, recurses := true, apart := false }
def CursorsBackSaid : Prop := cursorsBackRow.holds Try.pinned (OpenSpec.ofChange cursorsBackSpec)

/-- ITS FALSE NEIGHBOUR: 'it returns false'. Refute it at one input. -/
def cursorsBackWrong : ChangeSpec := { name := "cursorsBack", fn := fun _ => fun
  | [d1, d2, d3] => { results := [.lit (.bool false)], args := [d1, d2, d3] }
  | _ => none }
def CursorsBackWrongFalsely : Prop := cursorsBackRow.holds Try.pinned (OpenSpec.ofChange cursorsBackWrong)

/-- 'spoorlaw13.CursorsPlay': WHATEVER THE INPUT: true; the input reads as it did. -/
def cursorsPlaySpec : ChangeSpec := { name := "cursorsPlay", fn := fun _ => fun
  | [d1, d2] => { results := [.lit (.bool true)], args := [d1, d2] }
  | _ => none }
def cursorsPlayRow : OpenClaim := { program := "ytenbgfejonokdaa", sum := "5846a26e1191e5aabf6c54537fe26de2cc2997bccc48a1d74f9d6cba23c135b3", func := "spoor/spoorlaw13.CursorsPlay", spec := "cursorsPlay", unfollowed := true, recurses := true, apart := false }
def CursorsPlaySaid : Prop := cursorsPlayRow.holds Try.pinned (OpenSpec.ofChange cursorsPlaySpec)

/-- ITS FALSE NEIGHBOUR: 'it returns false'. Refute it at one input. -/
def cursorsPlayWrong : ChangeSpec := { name := "cursorsPlay", fn := fun _ => fun
  | [d1, d2] => { results := [.lit (.bool false)], args := [d1, d2] }
  | _ => none }
def CursorsPlayWrongFalsely : Prop := cursorsPlayRow.holds Try.pinned (OpenSpec.ofChange cursorsPlayWrong)

/-- 'spoorlaw16.EditsPlay': WHATEVER THE INPUT: true; the input reads as it did. -/
def editsPlaySpec : ChangeSpec := { name := "editsPlay", fn := fun _ => fun
  | [d] => { results := [.lit (.bool true)], args := [d] }
  | _ => none }
def editsPlayRow : OpenClaim := { program := "ytenbgfejonokdaa", sum := "5846a26e1191e5aabf6c54537fe26de2cc2997bccc48a1d74f9d6cba23c135b3", func := "spoor/spoorlaw16.EditsPlay", spec := "editsPlay", inPlace := ["slices.overlaps[spoor/api.Tablet]"], unfollowed := true, recurses := true, apart := false }
def EditsPlaySaid : Prop := editsPlayRow.holds Try.pinned (OpenSpec.ofChange editsPlaySpec)

/-- ITS FALSE NEIGHBOUR: 'it returns false'. Refute it at one input. -/
def editsPlayWrong : ChangeSpec := { name := "editsPlay", fn := fun _ => fun
  | [d] => { results := [.lit (.bool false)], args := [d] }
  | _ => none }
def EditsPlayWrongFalsely : Prop := editsPlayRow.holds Try.pinned (OpenSpec.ofChange editsPlayWrong)

/-- 'spoorlaw16.EditsOne': WHATEVER THE INPUT: true; the input reads as it did. -/
def editsOneSpec : ChangeSpec := { name := "editsOne", fn := fun _ => fun
  | [d1, d2] => { results := [.lit (.bool true)], args := [d1, d2] }
  | _ => none }
def editsOneRow : OpenClaim := { program := "ytenbgfejonokdaa", sum := "5846a26e1191e5aabf6c54537fe26de2cc2997bccc48a1d74f9d6cba23c135b3", func := "spoor/spoorlaw16.EditsOne", spec := "editsOne", inPlace := ["slices.overlaps[spoor/api.Tablet]"], unfollowed := true, recurses := true, apart := false }
def EditsOneSaid : Prop := editsOneRow.holds Try.pinned (OpenSpec.ofChange editsOneSpec)

/-- ITS FALSE NEIGHBOUR: 'it returns false'. Refute it at one input. -/
def editsOneWrong : ChangeSpec := { name := "editsOne", fn := fun _ => fun
  | [d1, d2] => { results := [.lit (.bool false)], args := [d1, d2] }
  | _ => none }
def EditsOneWrongFalsely : Prop := editsOneRow.holds Try.pinned (OpenSpec.ofChange editsOneWrong)

/-- 'spoorlaw16.EditsHalves': WHATEVER THE INPUT: true; the input reads as it did. -/
def editsHalvesSpec : ChangeSpec := { name := "editsHalves", fn := fun _ => fun
  | [d1, d2, d3] => { results := [.lit (.bool true)], args := [d1, d2, d3] }
  | _ => none }
def editsHalvesRow : OpenClaim := { program := "ytenbgfejonokdaa", sum := "5846a26e1191e5aabf6c54537fe26de2cc2997bccc48a1d74f9d6cba23c135b3", func := "spoor/spoorlaw16.EditsHalves", spec := "editsHalves", inPlace := ["slices.overlaps[spoor/api.Tablet]"], unfollowed := true, recurses := true, apart := false }
def EditsHalvesSaid : Prop := editsHalvesRow.holds Try.pinned (OpenSpec.ofChange editsHalvesSpec)

/-- ITS FALSE NEIGHBOUR: 'it returns false'. Refute it at one input. -/
def editsHalvesWrong : ChangeSpec := { name := "editsHalves", fn := fun _ => fun
  | [d1, d2, d3] => { results := [.lit (.bool false)], args := [d1, d2, d3] }
  | _ => none }
def EditsHalvesWrongFalsely : Prop := editsHalvesRow.holds Try.pinned (OpenSpec.ofChange editsHalvesWrong)

/-- 'spoorlaw16.EditsTell': WHATEVER THE INPUT: true; the input reads as it did. -/
def editsTellSpec : ChangeSpec := { name := "editsTell", fn := fun _ => fun
  | [d1, d2, d3] => { results := [.lit (.bool true)], args := [d1, d2, d3] }
  | _ => none }
def editsTellRow : OpenClaim := { program := "ytenbgfejonokdaa", sum := "5846a26e1191e5aabf6c54537fe26de2cc2997bccc48a1d74f9d6cba23c135b3", func := "spoor/spoorlaw16.EditsTell", spec := "editsTell", inPlace := ["slices.overlaps[spoor/api.Tablet]"], unfollowed := true, recurses := true, apart := false }
def EditsTellSaid : Prop := editsTellRow.holds Try.pinned (OpenSpec.ofChange editsTellSpec)

/-- ITS FALSE NEIGHBOUR: 'it returns false'. Refute it at one input. -/
def editsTellWrong : ChangeSpec := { name := "editsTell", fn := fun _ => fun
  | [d1, d2, d3] => { results := [.lit (.bool false)], args := [d1, d2, d3] }
  | _ => none }
def EditsTellWrongFalsely : Prop := editsTellRow.holds Try.pinned (OpenSpec.ofChange editsTellWrong)

/-- 'spoorlaw16.EditsWritten': WHATEVER THE INPUT: true; the input reads as it did. -/
def editsWrittenSpec : ChangeSpec := { name := "editsWritten", fn := fun _ => fun
  | [d] => { results := [.lit (.bool true)], args := [d] }
  | _ => none }
def editsWrittenRow : OpenClaim := { program := "ytenbgfejonokdaa", sum := "5846a26e1191e5aabf6c54537fe26de2cc2997bccc48a1d74f9d6cba23c135b3", func := "spoor/spoorlaw16.EditsWritten", spec := "editsWritten", inPlace := ["slices.overlaps[spoor/api.Tablet]"], unfollowed := true, recurses := true, apart := false }
def EditsWrittenSaid : Prop := editsWrittenRow.holds Try.pinned (OpenSpec.ofChange editsWrittenSpec)

/-- ITS FALSE NEIGHBOUR: 'it returns false'. Refute it at one input. -/
def editsWrittenWrong : ChangeSpec := { name := "editsWritten", fn := fun _ => fun
  | [d] => { results := [.lit (.bool false)], args := [d] }
  | _ => none }
def EditsWrittenWrongFalsely : Prop := editsWrittenRow.holds Try.pinned (OpenSpec.ofChange editsWrittenWrong)

/-- 'spoorlaw16.EditsBack': WHATEVER THE INPUT: true; the input reads as it did. -/
def editsBackSpec : ChangeSpec := { name := "editsBack", fn := fun _ => fun
  | [d1, d2] => { results := [.lit (.bool true)], args := [d1, d2] }
  | _ => none }
def editsBackRow : OpenClaim := { program := "ytenbgfejonokdaa", sum := "5846a26e1191e5aabf6c54537fe26de2cc2997bccc48a1d74f9d6cba23c135b3", func := "spoor/spoorlaw16.EditsBack", spec := "editsBack", inPlace := ["slices.overlaps[spoor/api.Tablet]"], unfollowed := true, recurses := true, apart := false }
def EditsBackSaid : Prop := editsBackRow.holds Try.pinned (OpenSpec.ofChange editsBackSpec)

/-- ITS FALSE NEIGHBOUR: 'it returns false'. Refute it at one input. -/
def editsBackWrong : ChangeSpec := { name := "editsBack", fn := fun _ => fun
  | [d1, d2] => { results := [.lit (.bool false)], args := [d1, d2] }
  | _ => none }
def EditsBackWrongFalsely : Prop := editsBackRow.holds Try.pinned (OpenSpec.ofChange editsBackWrong)

/- THE SECOND FORM. 'bulk': how many values and letters a reading holds, each counted each time it is reached (what is shared counts as often as it is met; a slice's spare places count too). A statement '..UptoSaid' is the law's where the arguments, and the package variables that the reading takes, are together of bulk at most 1048576: NARROWER than '..Said'. Prove '..Said' where nothing that the law and all that it calls make is longer than what came in: it says more and counts as full. Else prove '..UptoSaid'. A law counts once. -/
mutual
def uptoBulk {H : Type} : DataW H → Nat
  | .lit (.string bytes) => bytes.length + 1
  | .lit _ => 1
  | .nil => 1
  | .ptr d => uptoBulk d + 1
  | .slice elems spare => uptoBulkAll elems + uptoBulkAll spare + 1
  | .agg parts => uptoBulkAll parts + 1
  | .iface _ d => uptoBulk d + 1
  | .map entries => uptoBulkEntries entries + 1
  | .held _ => 1
def uptoBulkAll {H : Type} : List (DataW H) → Nat
  | [] => 0
  | d :: r => uptoBulk d + uptoBulkAll r
def uptoBulkEntries {H : Type} : List (Lit × DataW H) → Nat
  | [] => 0
  | x :: r => uptoBulkEntry x + uptoBulkEntries r
def uptoBulkEntry {H : Type} : Lit × DataW H → Nat
  | (.string bytes, d) => bytes.length + uptoBulk d + 1
  | (_, d) => uptoBulk d + 1
 end
def uptoSmall : (H : Type) → List (DataW H) → Bool := fun _ ds => decide (uptoBulkAll ds ≤ 1048576)
def OpenSpec.upto (s : _root_.Go.ChangeSpec) : _root_.Go.OpenSpec := { _root_.Go.OpenSpec.ofChange s with cond := some uptoSmall }

/-- 'spoorlaw13.CursorsBytes', WHERE WHAT IT READS IS OF BULK AT MOST 1048576: true; the input reads as it did. -/
def cursorsBytesUptoRow : OpenClaim := { program := "ytenbgfejonokdaa", sum := "5846a26e1191e5aabf6c54537fe26de2cc2997bccc48a1d74f9d6cba23c135b3", func := "spoor/spoorlaw13.CursorsBytes", spec := "cursorsBytes", unfollowed := true, recurses := true, apart := false, narrowed := true }
def CursorsBytesUptoSaid : Prop := cursorsBytesUptoRow.holds Try.pinned (OpenSpec.upto cursorsBytesSpec)

/-- 'spoorlaw13.CursorsNone', WHERE WHAT IT READS IS OF BULK AT MOST 1048576: true; the input reads as it did. -/
def cursorsNoneUptoRow : OpenClaim := { program := "ytenbgfejonokdaa", sum := "5846a26e1191e5aabf6c54537fe26de2cc2997bccc48a1d74f9d6cba23c135b3", func := "spoor/spoorlaw13.CursorsNone", spec := "cursorsNone", unfollowed := true, recurses := true, apart := false, narrowed := true }
def CursorsNoneUptoSaid : Prop := cursorsNoneUptoRow.holds Try.pinned (OpenSpec.upto cursorsNoneSpec)

/-- 'spoorlaw13.CursorsAlone', WHERE WHAT IT READS IS OF BULK AT MOST 1048576: true; the input reads as it did. -/
def cursorsAloneUptoRow : OpenClaim := { program := "ytenbgfejonokdaa", sum := "5846a26e1191e5aabf6c54537fe26de2cc2997bccc48a1d74f9d6cba23c135b3", func := "spoor/spoorlaw13.CursorsAlone", spec := "cursorsAlone", unfollowed := true, recurses := true, apart := false, narrowed := true }
def CursorsAloneUptoSaid : Prop := cursorsAloneUptoRow.holds Try.pinned (OpenSpec.upto cursorsAloneSpec)

/-- 'spoorlaw13.CursorsTorn', WHERE WHAT IT READS IS OF BULK AT MOST 1048576: true; the input reads as it did. -/
def cursorsTornUptoRow : OpenClaim := { program := "ytenbgfejonokdaa", sum := "5846a26e1191e5aabf6c54537fe26de2cc2997bccc48a1d74f9d6cba23c135b3", func := "spoor/spoorlaw13.CursorsTorn", spec := "cursorsTorn", unfollowed := true, recurses := true, apart := false, narrowed := true }
def CursorsTornUptoSaid : Prop := cursorsTornUptoRow.holds Try.pinned (OpenSpec.upto cursorsTornSpec)

/-- 'spoorlaw13.CursorsBack', WHERE WHAT IT READS IS OF BULK AT MOST 1048576: true; the input reads as it did. -/
def cursorsBackUptoRow : OpenClaim := { program := "ytenbgfejonokdaa", sum := "5846a26e1191e5aabf6c54537fe26de2cc2997bccc48a1d74f9d6cba23c135b3", func := "spoor/spoorlaw13.CursorsBack", spec := "cursorsBack", unfollowed := true, recurses := true, apart := false, narrowed := true }
def CursorsBackUptoSaid : Prop := cursorsBackUptoRow.holds Try.pinned (OpenSpec.upto cursorsBackSpec)

/-- 'spoorlaw13.CursorsPlay', WHERE WHAT IT READS IS OF BULK AT MOST 1048576: true; the input reads as it did. -/
def cursorsPlayUptoRow : OpenClaim := { program := "ytenbgfejonokdaa", sum := "5846a26e1191e5aabf6c54537fe26de2cc2997bccc48a1d74f9d6cba23c135b3", func := "spoor/spoorlaw13.CursorsPlay", spec := "cursorsPlay", unfollowed := true, recurses := true, apart := false, narrowed := true }
def CursorsPlayUptoSaid : Prop := cursorsPlayUptoRow.holds Try.pinned (OpenSpec.upto cursorsPlaySpec)

/-- 'spoorlaw16.EditsPlay', WHERE WHAT IT READS IS OF BULK AT MOST 1048576: true; the input reads as it did. -/
def editsPlayUptoRow : OpenClaim := { program := "ytenbgfejonokdaa", sum := "5846a26e1191e5aabf6c54537fe26de2cc2997bccc48a1d74f9d6cba23c135b3", func := "spoor/spoorlaw16.EditsPlay", spec := "editsPlay", inPlace := ["slices.overlaps[spoor/api.Tablet]"], unfollowed := true, recurses := true, apart := false, narrowed := true }
def EditsPlayUptoSaid : Prop := editsPlayUptoRow.holds Try.pinned (OpenSpec.upto editsPlaySpec)

/-- 'spoorlaw16.EditsOne', WHERE WHAT IT READS IS OF BULK AT MOST 1048576: true; the input reads as it did. -/
def editsOneUptoRow : OpenClaim := { program := "ytenbgfejonokdaa", sum := "5846a26e1191e5aabf6c54537fe26de2cc2997bccc48a1d74f9d6cba23c135b3", func := "spoor/spoorlaw16.EditsOne", spec := "editsOne", inPlace := ["slices.overlaps[spoor/api.Tablet]"], unfollowed := true, recurses := true, apart := false, narrowed := true }
def EditsOneUptoSaid : Prop := editsOneUptoRow.holds Try.pinned (OpenSpec.upto editsOneSpec)

/-- 'spoorlaw16.EditsHalves', WHERE WHAT IT READS IS OF BULK AT MOST 1048576: true; the input reads as it did. -/
def editsHalvesUptoRow : OpenClaim := { program := "ytenbgfejonokdaa", sum := "5846a26e1191e5aabf6c54537fe26de2cc2997bccc48a1d74f9d6cba23c135b3", func := "spoor/spoorlaw16.EditsHalves", spec := "editsHalves", inPlace := ["slices.overlaps[spoor/api.Tablet]"], unfollowed := true, recurses := true, apart := false, narrowed := true }
def EditsHalvesUptoSaid : Prop := editsHalvesUptoRow.holds Try.pinned (OpenSpec.upto editsHalvesSpec)

/-- 'spoorlaw16.EditsTell', WHERE WHAT IT READS IS OF BULK AT MOST 1048576: true; the input reads as it did. -/
def editsTellUptoRow : OpenClaim := { program := "ytenbgfejonokdaa", sum := "5846a26e1191e5aabf6c54537fe26de2cc2997bccc48a1d74f9d6cba23c135b3", func := "spoor/spoorlaw16.EditsTell", spec := "editsTell", inPlace := ["slices.overlaps[spoor/api.Tablet]"], unfollowed := true, recurses := true, apart := false, narrowed := true }
def EditsTellUptoSaid : Prop := editsTellUptoRow.holds Try.pinned (OpenSpec.upto editsTellSpec)

/-- 'spoorlaw16.EditsWritten', WHERE WHAT IT READS IS OF BULK AT MOST 1048576: true; the input reads as it did. -/
def editsWrittenUptoRow : OpenClaim := { program := "ytenbgfejonokdaa", sum := "5846a26e1191e5aabf6c54537fe26de2cc2997bccc48a1d74f9d6cba23c135b3", func := "spoor/spoorlaw16.EditsWritten", spec := "editsWritten", inPlace := ["slices.overlaps[spoor/api.Tablet]"], unfollowed := true, recurses := true, apart := false, narrowed := true }
def EditsWrittenUptoSaid : Prop := editsWrittenUptoRow.holds Try.pinned (OpenSpec.upto editsWrittenSpec)

/-- 'spoorlaw16.EditsBack', WHERE WHAT IT READS IS OF BULK AT MOST 1048576: true; the input reads as it did. -/
def editsBackUptoRow : OpenClaim := { program := "ytenbgfejonokdaa", sum := "5846a26e1191e5aabf6c54537fe26de2cc2997bccc48a1d74f9d6cba23c135b3", func := "spoor/spoorlaw16.EditsBack", spec := "editsBack", inPlace := ["slices.overlaps[spoor/api.Tablet]"], unfollowed := true, recurses := true, apart := false, narrowed := true }
def EditsBackUptoSaid : Prop := editsBackUptoRow.holds Try.pinned (OpenSpec.upto editsBackSpec)

end Rows
end Go.Proofs.Ytenbgfejonokdaa
