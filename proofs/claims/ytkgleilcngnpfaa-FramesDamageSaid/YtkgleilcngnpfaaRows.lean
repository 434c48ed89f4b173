/-
  No cell of these rows narrows 'for every input' (looked for: loops, veiled, ifaces, maps, wideKeys, modest, calm, conditions, laid).
  DERIVED. THE GIVEN ROWS OF THIS SEAT. 9 by the template 'for every input the law returns true; each argument reads behind the call as it read before'; 0 by the template 'total and deterministic' (their statements: YtkgleilcngnpfaaTotals.lean).
  GIVEN WITH THE SEED: the statements are not yours to turn. If you find one false, say at which input.
  Laid BY PROGRAM, IN A SANDBOX (cutbox-rows.mjs): the forced cells as the released guide's own fill.sh prints them over the translation 497a93bc6ee3088b… (all of the seat's roots in one cut). By AI agents, Wed Nov 11 2026. No macro, syntax, notation, axiom, sorry.
-/
import Derived.Test.YtkgleilcngnpfaaChecked
import GoSem.Claim
import GoSem.ClaimJoined
import GoSem.ClaimMapViews
import Derived.JoinedTies
import Derived.KernelRfl
namespace Go.Proofs.Ytkgleilcngnpfaa
/- THE CELL 'sum', in the pinned program and in every row, IS THE sha256 OF THE DUMP (.gsa) THAT YtkgleilcngnpfaaProg.lean LOADS. Nothing in Lean hashes anything: it is a label: what it is worth is what the hold of that sum in a sandbox is worth. -/
noncomputable def Try.pinned : Pinned := { name := "ytkgleilcngnpfaa", sum := "497a93bc6ee3088b6557910d700712395f3266f00d24b1574c1e24170efe929c", checked := Try.checked }
namespace Rows
def none {H : Type} : Left H := { results := [], args := [] }

/-- 'spoorlaw04.FramesTell': WHATEVER THE INPUT: true; the input reads as it did. -/
def framesTellSpec : ChangeSpec := { name := "framesTell", fn := fun _ => fun
  | [d1, d2, d3] => { results := [.lit (.bool true)], args := [d1, d2, d3] }
  | _ => none }
def framesTellRow : OpenClaim := { program := "ytkgleilcngnpfaa", sum := "497a93bc6ee3088b6557910d700712395f3266f00d24b1574c1e24170efe929c", func := "spoor/spoorlaw04.FramesTell", spec := "framesTell", inPlace := ["internal/bytealg.IndexByteString"], unfollowed := true, recurses := true, apart := false }
def FramesTellSaid : Prop := framesTellRow.holds Try.pinned (OpenSpec.ofChange framesTellSpec)

/-- ITS FALSE NEIGHBOUR: 'it returns false'. Refute it at one input. -/
def framesTellWrong : ChangeSpec := { name := "framesTell", fn := fun _ => fun
  | [d1, d2, d3] => { results := [.lit (.bool false)], args := [d1, d2, d3] }
  | _ => none }
def FramesTellWrongFalsely : Prop := framesTellRow.holds Try.pinned (OpenSpec.ofChange framesTellWrong)

/-- 'spoorlaw04.FramesRow': WHATEVER THE INPUT: true; the input reads as it did. -/
def framesRowSpec : ChangeSpec := { name := "framesRow", fn := fun _ => fun
  | [d] => { results := [.lit (.bool true)], args := [d] }
  | _ => none }
def framesRowRow : OpenClaim := { program := "ytkgleilcngnpfaa", sum := "497a93bc6ee3088b6557910d700712395f3266f00d24b1574c1e24170efe929c", func := "spoor/spoorlaw04.FramesRow", spec := "framesRow", inPlace := ["internal/bytealg.IndexByteString"], unfollowed := true, recurses := true, apart := false }
def FramesRowSaid : Prop := framesRowRow.holds Try.pinned (OpenSpec.ofChange framesRowSpec)

/-- ITS FALSE NEIGHBOUR: 'it returns false'. Refute it at one input. -/
def framesRowWrong : ChangeSpec := { name := "framesRow", fn := fun _ => fun
  | [d] => { results := [.lit (.bool false)], args := [d] }
  | _ => none }
def FramesRowWrongFalsely : Prop := framesRowRow.holds Try.pinned (OpenSpec.ofChange framesRowWrong)

/-- 'spoorlaw04.FramesBytes': WHATEVER THE INPUT: true; the input reads as it did. -/
def framesBytesSpec : ChangeSpec := { name := "framesBytes", fn := fun _ => fun
  | [d1, d2] => { results := [.lit (.bool true)], args := [d1, d2] }
  | _ => none }
def framesBytesRow : OpenClaim := { program := "ytkgleilcngnpfaa", sum := "497a93bc6ee3088b6557910d700712395f3266f00d24b1574c1e24170efe929c", func := "spoor/spoorlaw04.FramesBytes", spec := "framesBytes", inPlace := ["internal/bytealg.IndexByteString"], unfollowed := true, recurses := true, apart := false }
def FramesBytesSaid : Prop := framesBytesRow.holds Try.pinned (OpenSpec.ofChange framesBytesSpec)

/-- ITS FALSE NEIGHBOUR: 'it returns false'. Refute it at one input. -/
def framesBytesWrong : ChangeSpec := { name := "framesBytes", fn := fun _ => fun
  | [d1, d2] => { results := [.lit (.bool false)], args := [d1, d2] }
  | _ => none }
def FramesBytesWrongFalsely : Prop := framesBytesRow.holds Try.pinned (OpenSpec.ofChange framesBytesWrong)

/-- 'spoorlaw04.FramesLimit': WHATEVER THE INPUT: true; the input reads as it did. -/
def framesLimitSpec : ChangeSpec := { name := "framesLimit", fn := fun _ => fun
  | [d1, d2] => { results := [.lit (.bool true)], args := [d1, d2] }
  | _ => none }
def framesLimitRow : OpenClaim := { program := "ytkgleilcngnpfaa", sum := "497a93bc6ee3088b6557910d700712395f3266f00d24b1574c1e24170efe929c", func := "spoor/spoorlaw04.FramesLimit", spec := "framesLimit", inPlace := ["internal/bytealg.IndexByteString"], unfollowed := true, recurses := true, apart := false }
def FramesLimitSaid : Prop := framesLimitRow.holds Try.pinned (OpenSpec.ofChange framesLimitSpec)

/-- ITS FALSE NEIGHBOUR: 'it returns false'. Refute it at one input. -/
def framesLimitWrong : ChangeSpec := { name := "framesLimit", fn := fun _ => fun
  | [d1, d2] => { results := [.lit (.bool false)], args := [d1, d2] }
  | _ => none }
def FramesLimitWrongFalsely : Prop := framesLimitRow.holds Try.pinned (OpenSpec.ofChange framesLimitWrong)

/-- 'spoorlaw04.FramesRun': WHATEVER THE INPUT: true; the input reads as it did. -/
def framesRunSpec : ChangeSpec := { name := "framesRun", fn := fun _ => fun
  | [d] => { results := [.lit (.bool true)], args := [d] }
  | _ => none }
def framesRunRow : OpenClaim := { program := "ytkgleilcngnpfaa", sum := "497a93bc6ee3088b6557910d700712395f3266f00d24b1574c1e24170efe929c", func := "spoor/spoorlaw04.FramesRun", spec := "framesRun", inPlace := ["internal/bytealg.IndexByteString"], unfollowed := true, recurses := true, apart := false }
def FramesRunSaid : Prop := framesRunRow.holds Try.pinned (OpenSpec.ofChange framesRunSpec)

/-- ITS FALSE NEIGHBOUR: 'it returns false'. Refute it at one input. -/
def framesRunWrong : ChangeSpec := { name := "framesRun", fn := fun _ => fun
  | [d] => { results := [.lit (.bool false)], args := [d] }
  | _ => none }
def FramesRunWrongFalsely : Prop := framesRunRow.holds Try.pinned (OpenSpec.ofChange framesRunWrong)

/-- 'spoorlaw04.FramesDamage': WHATEVER THE INPUT: true; the input reads as it did. -/
def framesDamageSpec : ChangeSpec := { name := "framesDamage", fn := fun _ => fun
  | [d1, d2, d3] => { results := [.lit (.bool true)], args := [d1, d2, d3] }
  | _ => none }
def framesDamageRow : OpenClaim := { program := "ytkgleilcngnpfaa", sum := "497a93bc6ee3088b6557910d700712395f3266f00d24b1574c1e24170efe929c", func := "spoor/spoorlaw04.FramesDamage", spec := "framesDamage", inPlace := ["internal/bytealg.IndexByteString"], unfollowed := true, recurses := true, apart := false }
def FramesDamageSaid : Prop := framesDamageRow.holds Try.pinned (OpenSpec.ofChange framesDamageSpec)

/-- ITS FALSE NEIGHBOUR: 'it returns false'. Refute it at one input. -/
def framesDamageWrong : ChangeSpec := { name := "framesDamage", fn := fun _ => fun
  | [d1, d2, d3] => { results := [.lit (.bool false)], args := [d1, d2, d3] }
  | _ => none }
def FramesDamageWrongFalsely : Prop := framesDamageRow.holds Try.pinned (OpenSpec.ofChange framesDamageWrong)

/-- 'spoorlaw04.FramesNearest': WHATEVER THE INPUT: true; the input reads as it did. -/
def framesNearestSpec : ChangeSpec := { name := "framesNearest", fn := fun _ => fun
  | [d1, d2, d3] => { results := [.lit (.bool true)], args := [d1, d2, d3] }
  | _ => none }
def framesNearestRow : OpenClaim := { program := "ytkgleilcngnpfaa", sum := "497a93bc6ee3088b6557910d700712395f3266f00d24b1574c1e24170efe929c", func := "spoor/spoorlaw04.FramesNearest", spec := "framesNearest", inPlace := ["internal/bytealg.IndexByteString"], unfollowed := true, recurses := true, apart := false }
def FramesNearestSaid : Prop := framesNearestRow.holds Try.pinned (OpenSpec.ofChange framesNearestSpec)

/-- ITS FALSE NEIGHBOUR: 'it returns false'. Refute it at one input. -/
def framesNearestWrong : ChangeSpec := { name := "framesNearest", fn := fun _ => fun
  | [d1, d2, d3] => { results := [.lit (.bool false)], args := [d1, d2, d3] }
  | _ => none }
def FramesNearestWrongFalsely : Prop := framesNearestRow.holds Try.pinned (OpenSpec.ofChange framesNearestWrong)

/-- 'spoorlaw04.FramesBare': WHATEVER THE INPUT: true; the input reads as it did. -/
def framesBareSpec : ChangeSpec := { name := "framesBare", fn := fun _ => fun
  | [d1, d2] => { results := [.lit (.bool true)], args := [d1, d2] }
  | _ => none }
def framesBareRow : OpenClaim := { program := "ytkgleilcngnpfaa", sum := "497a93bc6ee3088b6557910d700712395f3266f00d24b1574c1e24170efe929c", func := "spoor/spoorlaw04.FramesBare", spec := "framesBare", inPlace := ["internal/bytealg.IndexByteString"], unfollowed := true, recurses := true, apart := false }
def FramesBareSaid : Prop := framesBareRow.holds Try.pinned (OpenSpec.ofChange framesBareSpec)

/-- ITS FALSE NEIGHBOUR: 'it returns false'. Refute it at one input. -/
def framesBareWrong : ChangeSpec := { name := "framesBare", fn := fun _ => fun
  | [d1, d2] => { results := [.lit (.bool false)], args := [d1, d2] }
  | _ => none }
def FramesBareWrongFalsely : Prop := framesBareRow.holds Try.pinned (OpenSpec.ofChange framesBareWrong)

/-- 'spoorlaw04.FramesDeep': WHATEVER THE INPUT: true; the input reads as it did. -/
def framesDeepSpec : ChangeSpec := { name := "framesDeep", fn := fun _ => fun
  | [d1, d2] => { results := [.lit (.bool true)], args := [d1, d2] }
  | _ => none }
def framesDeepRow : OpenClaim := { program := "ytkgleilcngnpfaa", sum := "497a93bc6ee3088b6557910d700712395f3266f00d24b1574c1e24170efe929c", func := "spoor/spoorlaw04.FramesDeep", spec := "framesDeep", inPlace := ["internal/bytealg.IndexByteString"], unfollowed := true, recurses := true, apart := false }
def FramesDeepSaid : Prop := framesDeepRow.holds Try.pinned (OpenSpec.ofChange framesDeepSpec)

/-- ITS FALSE NEIGHBOUR: 'it returns false'. Refute it at one input. -/
def framesDeepWrong : ChangeSpec := { name := "framesDeep", fn := fun _ => fun
  | [d1, d2] => { results := [.lit (.bool false)], args := [d1, d2] }
  | _ => none }
def FramesDeepWrongFalsely : Prop := framesDeepRow.holds Try.pinned (OpenSpec.ofChange framesDeepWrong)

/- THE SECOND FORM. 'bulk': how many values and letters a reading holds, each counted each time it is reached (what is shared counts as often as it is met; a slice's spare places count too). A statement '..UptoSaid' is the law's where the arguments, and the package variables that the reading takes, are together of bulk at most 1048576: NARROWER than '..Said'. Prove '..Said' where nothing that the law and all that it calls make is longer than what came in: it says more and counts as full. Else prove '..UptoSaid'. A law counts once. -/
mutual
def uptoBulk {H : Type} : DataW H → Nat
  | .lit (.string bytes) => bytes.length + 1
  | .lit _ => 1
  | .nil => 1
  | .ptr d => uptoBulk d + 1
  | .slice elems spare => uptoBulkAll elems + uptoBulkAll spare + 1
  | .agg parts => uptoBulkAll parts + 1
  | .iface _ d => uptoBulk d + 1
  | .map entries => uptoBulkEntries entries + 1
  | .held _ => 1
def uptoBulkAll {H : Type} : List (DataW H) → Nat
  | [] => 0
  | d :: r => uptoBulk d + uptoBulkAll r
def uptoBulkEntries {H : Type} : List (Lit × DataW H) → Nat
  | [] => 0
  | x :: r => uptoBulkEntry x + uptoBulkEntries r
def uptoBulkEntry {H : Type} : Lit × DataW H → Nat
  | (.string bytes, d) => bytes.length + uptoBulk d + 1
  | (_, d) => uptoBulk d + 1
 end
def uptoSmall : (H : Type) → List (DataW H) → Bool := fun _ ds => decide (uptoBulkAll ds ≤ 1048576)
def OpenSpec.upto (s : _root_.Go.ChangeSpec) : _root_.Go.OpenSpec := { _root_.Go.OpenSpec.ofChange s with cond := some uptoSmall }

/-- 'spoorlaw04.FramesTell', WHERE WHAT IT READS IS OF BULK AT MOST 1048576: true; the input reads as it did. -/
def framesTellUptoRow : OpenClaim := { program := "ytkgleilcngnpfaa", sum := "497a93bc6ee3088b6557910d700712395f3266f00d24b1574c1e24170efe929c", func := "spoor/spoorlaw04.FramesTell", spec := "framesTell", inPlace := ["internal/bytealg.IndexByteString"], unfollowed := true, recurses := true, apart := false, narrowed := true }
def FramesTellUptoSaid : Prop := framesTellUptoRow.holds Try.pinned (OpenSpec.upto framesTellSpec)

/-- 'spoorlaw04.FramesRow', WHERE WHAT IT READS IS OF BULK AT MOST 1048576: true; the input reads as it did. -/
def framesRowUptoRow : OpenClaim := { program := "ytkgleilcngnpfaa", sum := "497a93bc6ee3088b6557910d700712395f3266f00d24b1574c1e24170efe929c", func := "spoor/spoorlaw04.FramesRow", spec := "framesRow", inPlace := ["internal/bytealg.IndexByteString"], unfollowed := true, recurses := true, apart := false, narrowed := true }
def FramesRowUptoSaid : Prop := framesRowUptoRow.holds Try.pinned (OpenSpec.upto framesRowSpec)

/-- 'spoorlaw04.FramesBytes', WHERE WHAT IT READS IS OF BULK AT MOST 1048576: true; the input reads as it did. -/
def framesBytesUptoRow : OpenClaim := { program := "ytkgleilcngnpfaa", sum := "497a93bc6ee3088b6557910d700712395f3266f00d24b1574c1e24170efe929c", func := "spoor/spoorlaw04.FramesBytes", spec := "framesBytes", inPlace := ["internal/bytealg.IndexByteString"], unfollowed := true, recurses := true, apart := false, narrowed := true }
def FramesBytesUptoSaid : Prop := framesBytesUptoRow.holds Try.pinned (OpenSpec.upto framesBytesSpec)

/-- 'spoorlaw04.FramesLimit', WHERE WHAT IT READS IS OF BULK AT MOST 1048576: true; the input reads as it did. -/
def framesLimitUptoRow : OpenClaim := { program := "ytkgleilcngnpfaa", sum := "497a93bc6ee3088b6557910d700712395f3266f00d24b1574c1e24170efe929c", func := "spoor/spoorlaw04.FramesLimit", spec := "framesLimit", inPlace := ["internal/bytealg.IndexByteString"], unfollowed := true, recurses := true, apart := false, narrowed := true }
def FramesLimitUptoSaid : Prop := framesLimitUptoRow.holds Try.pinned (OpenSpec.upto framesLimitSpec)

/-- 'spoorlaw04.FramesRun', WHERE WHAT IT READS IS OF BULK AT MOST 1048576: true; the input reads as it did. -/
def framesRunUptoRow : OpenClaim := { program := "ytkgleilcngnpfaa", sum := "497a93bc6ee3088b6557910d700712395f3266f00d24b1574c1e24170efe929c", func := "spoor/spoorlaw04.FramesRun", spec := "framesRun", inPlace := ["internal/bytealg.IndexByteString"], unfollowed := true, recurses := true, apart := false, narrowed := true }
def FramesRunUptoSaid : Prop := framesRunUptoRow.holds Try.pinned (OpenSpec.upto framesRunSpec)

/-- 'spoorlaw04.FramesDamage', WHERE WHAT IT READS IS OF BULK AT MOST 1048576: true; the input reads as it did. -/
def framesDamageUptoRow : OpenClaim := { program := "ytkgleilcngnpfaa", sum := "497a93bc6ee3088b6557910d700712395f3266f00d24b1574c1e24170efe929c", func := "spoor/spoorlaw04.FramesDamage", spec := "framesDamage", inPlace := ["internal/bytealg.IndexByteString"], unfollowed := true, recurses := true, apart := false, narrowed := true }
def FramesDamageUptoSaid : Prop := framesDamageUptoRow.holds Try.pinned (OpenSpec.upto framesDamageSpec)

/-- 'spoorlaw04.FramesNearest', WHERE WHAT IT READS IS OF BULK AT MOST 1048576: true; the input reads as it did. -/
def framesNearestUptoRow : OpenClaim := { program := "ytkgleilcngnpfaa", sum := "497a93bc6ee3088b6557910d700712395f3266f00d24b1574c1e24170efe929c", func := "spoor/spoorlaw04.FramesNearest", spec := "framesNearest", inPlace := ["internal/bytealg.IndexByteString"], unfollowed := true, recurses := true, apart := false, narrowed := true }
def FramesNearestUptoSaid : Prop := framesNearestUptoRow.holds Try.pinned (OpenSpec.upto framesNearestSpec)

/-- 'spoorlaw04.FramesBare', WHERE WHAT IT READS IS OF BULK AT MOST 1048576: true; the input reads as it did. -/
def framesBareUptoRow : OpenClaim := { program := "ytkgleilcngnpfaa", sum := "497a93bc6ee3088b6557910d700712395f3266f00d24b1574c1e24170efe929c", func := "spoor/spoorlaw04.FramesBare", spec := "framesBare", inPlace := ["internal/bytealg.IndexByteString"], unfollowed := true, recurses := true, apart := false, narrowed := true }
def FramesBareUptoSaid : Prop := framesBareUptoRow.holds Try.pinned (OpenSpec.upto framesBareSpec)

/-- 'spoorlaw04.FramesDeep', WHERE WHAT IT READS IS OF BULK AT MOST 1048576: true; the input reads as it did. -/
def framesDeepUptoRow : OpenClaim := { program := "ytkgleilcngnpfaa", sum := "497a93bc6ee3088b6557910d700712395f3266f00d24b1574c1e24170efe929c", func := "spoor/spoorlaw04.FramesDeep", spec := "framesDeep", inPlace := ["internal/bytealg.IndexByteString"], unfollowed := true, recurses := true, apart := false, narrowed := true }
def FramesDeepUptoSaid : Prop := framesDeepUptoRow.holds Try.pinned (OpenSpec.upto framesDeepSpec)

end Rows
end Go.Proofs.Ytkgleilcngnpfaa
