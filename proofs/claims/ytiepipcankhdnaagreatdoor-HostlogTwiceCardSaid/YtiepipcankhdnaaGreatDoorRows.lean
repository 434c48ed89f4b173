/-
  NARROWER THAN 'FOR EVERY INPUT', by the rows' own cells (each row's printed sentence says how): HostlogBack: laid · HostlogNone: laid · HostlogRetain: laid · HostlogKeep: laid · HostlogTorn: laid · HostlogPlays: laid · HostlogTwice: laid.
  DERIVED. THE GIVEN ROWS OF THIS SEAT. 7 by the template 'for every input the law returns true; each argument reads behind the call as it read before'; 0 by the template 'total and deterministic' (their statements: YtiepipcankhdnaaGreatDoorTotals.lean).
  GIVEN WITH THE SEED: the statements are not yours to turn. If you find one false, say at which input.
  Laid BY PROGRAM, IN A SANDBOX (cutbox-rows.mjs): the forced cells as the released guide's own fill.sh prints them over the translation ca549f4c5a955d9b… (all of the seat's roots in one cut). By AI agents, Wed Nov 11 2026. No macro, syntax, notation, axiom, sorry.
-/
import Derived.Test.YtiepipcankhdnaaGreatDoorChecked
import GoSem.Claim
import GoSem.ClaimJoined
import GoSem.ClaimMapViews
import Derived.JoinedTies
import Derived.KernelRfl
namespace Go.Proofs.YtiepipcankhdnaaGreatDoor
/- THE CELL 'sum', in the pinned program and in every row, IS THE sha256 OF THE DUMP (.gsa) THAT YtiepipcankhdnaaGreatDoorProg.lean LOADS. Nothing in Lean hashes anything: it is a label: what it is worth is what the hold of that sum in a sandbox is worth. -/
noncomputable def Tryz.pinned : Pinned := { name := "ytiepipcankhdnaagreatdoor", sum := "ca549f4c5a955d9b1d1eb36ccdacefcb8182f84abb9c60c5c34d1f0bd7f9bd0a", checked := Tryz.checked }
namespace Rows
def none {H : Type} : Left H := { results := [], args := [] }

/- WHAT THE LISTED PACKAGE-LEVEL VARIABLES READ AS WHEN THE CALL BEGINS. Each datum BY PROGRAM (the guide's laid-datum.mjs) off the statement by which the dump's own 'gosem.cut.vars' lays the variable. In a bare row this is a premise. The card (YtiepipcankhdnaaGreatDoorCards.lean) ties it to the program's text. -/
def laid_math_bits_deBruijn32tab {H : Type} : DataW H := .agg [.lit (.int .u8 0), .lit (.int .u8 1), .lit (.int .u8 28), .lit (.int .u8 2), .lit (.int .u8 29), .lit (.int .u8 14), .lit (.int .u8 24), .lit (.int .u8 3), .lit (.int .u8 30), .lit (.int .u8 22), .lit (.int .u8 20), .lit (.int .u8 15), .lit (.int .u8 25), .lit (.int .u8 17), .lit (.int .u8 4), .lit (.int .u8 8), .lit (.int .u8 31), .lit (.int .u8 27), .lit (.int .u8 13), .lit (.int .u8 23), .lit (.int .u8 21), .lit (.int .u8 19), .lit (.int .u8 16), .lit (.int .u8 7), .lit (.int .u8 26), .lit (.int .u8 12), .lit (.int .u8 18), .lit (.int .u8 6), .lit (.int .u8 11), .lit (.int .u8 5), .lit (.int .u8 10), .lit (.int .u8 9)]
def laid_math_bits_deBruijn64tab {H : Type} : DataW H := .agg [.lit (.int .u8 0), .lit (.int .u8 1), .lit (.int .u8 56), .lit (.int .u8 2), .lit (.int .u8 57), .lit (.int .u8 49), .lit (.int .u8 28), .lit (.int .u8 3), .lit (.int .u8 61), .lit (.int .u8 58), .lit (.int .u8 42), .lit (.int .u8 50), .lit (.int .u8 38), .lit (.int .u8 29), .lit (.int .u8 17), .lit (.int .u8 4), .lit (.int .u8 62), .lit (.int .u8 47), .lit (.int .u8 59), .lit (.int .u8 36), .lit (.int .u8 45), .lit (.int .u8 43), .lit (.int .u8 51), .lit (.int .u8 22), .lit (.int .u8 53), .lit (.int .u8 39), .lit (.int .u8 33), .lit (.int .u8 30), .lit (.int .u8 24), .lit (.int .u8 18), .lit (.int .u8 12), .lit (.int .u8 5), .lit (.int .u8 63), .lit (.int .u8 55), .lit (.int .u8 48), .lit (.int .u8 27), .lit (.int .u8 60), .lit (.int .u8 41), .lit (.int .u8 37), .lit (.int .u8 16), .lit (.int .u8 46), .lit (.int .u8 35), .lit (.int .u8 44), .lit (.int .u8 21), .lit (.int .u8 52), .lit (.int .u8 32), .lit (.int .u8 23), .lit (.int .u8 11), .lit (.int .u8 54), .lit (.int .u8 26), .lit (.int .u8 40), .lit (.int .u8 15), .lit (.int .u8 34), .lit (.int .u8 20), .lit (.int .u8 31), .lit (.int .u8 10), .lit (.int .u8 25), .lit (.int .u8 14), .lit (.int .u8 19), .lit (.int .u8 9), .lit (.int .u8 13), .lit (.int .u8 8), .lit (.int .u8 7), .lit (.int .u8 6)]
def laid_internal_strconv_uint64pow10 {H : Type} : DataW H := .agg [.lit (.int .u64 1), .lit (.int .u64 10), .lit (.int .u64 100), .lit (.int .u64 1000), .lit (.int .u64 10000), .lit (.int .u64 100000), .lit (.int .u64 1000000), .lit (.int .u64 10000000), .lit (.int .u64 100000000), .lit (.int .u64 1000000000), .lit (.int .u64 10000000000), .lit (.int .u64 100000000000), .lit (.int .u64 1000000000000), .lit (.int .u64 10000000000000), .lit (.int .u64 100000000000000), .lit (.int .u64 1000000000000000), .lit (.int .u64 10000000000000000), .lit (.int .u64 100000000000000000), .lit (.int .u64 1000000000000000000), .lit (.int .u64 10000000000000000000)]
def laid_strconv_ErrRange {H : Type} : DataW H := .iface "*errors.errorString" (.ptr (.agg [.lit (.string [118, 97, 108, 117, 101, 32, 111, 117, 116, 32, 111, 102, 32, 114, 97, 110, 103, 101])]))
def laid_strconv_ErrSyntax {H : Type} : DataW H := .iface "*errors.errorString" (.ptr (.agg [.lit (.string [105, 110, 118, 97, 108, 105, 100, 32, 115, 121, 110, 116, 97, 120])]))

/-- 'spoorlaw06.HostlogBack': WHATEVER THE INPUT: true; the input reads as it did. -/
def hostlogBackSpec : ChangeSpec := { name := "hostlogBack", fn := fun _ => fun
  | [d1, d2, d3] => { results := [.lit (.bool true)], args := [d1, d2, d3] }
  | _ => none }
def hostlogBackRow : OpenClaim := { program := "ytiepipcankhdnaagreatdoor", sum := "ca549f4c5a955d9b1d1eb36ccdacefcb8182f84abb9c60c5c34d1f0bd7f9bd0a", func := "spoor/spoorlaw06.HostlogBack", spec := "hostlogBack", inPlace := ["slices.overlaps[spoor/hostlog.segment]", "slices.overlaps[string]", "internal/abi.NoEscape"], unfollowed := true, recurses := true, named := ["strconv.ErrSyntax", "strconv.ErrRange", "internal/strconv.uint64pow10", "math/bits.deBruijn32tab", "math/bits.deBruijn64tab"], apart := false, laid := [("math/bits.deBruijn32tab", laid_math_bits_deBruijn32tab), ("math/bits.deBruijn64tab", laid_math_bits_deBruijn64tab), ("internal/strconv.uint64pow10", laid_internal_strconv_uint64pow10), ("strconv.ErrRange", laid_strconv_ErrRange), ("strconv.ErrSyntax", laid_strconv_ErrSyntax)] }
def HostlogBackSaid : Prop := hostlogBackRow.holds Tryz.pinned (OpenSpec.ofChange hostlogBackSpec)

/-- ITS FALSE NEIGHBOUR: 'it returns false'. Refute it at one input. -/
def hostlogBackWrong : ChangeSpec := { name := "hostlogBack", fn := fun _ => fun
  | [d1, d2, d3] => { results := [.lit (.bool false)], args := [d1, d2, d3] }
  | _ => none }
def HostlogBackWrongFalsely : Prop := hostlogBackRow.holds Tryz.pinned (OpenSpec.ofChange hostlogBackWrong)

/-- 'spoorlaw06.HostlogNone': WHATEVER THE INPUT: true; the input reads as it did. -/
def hostlogNoneSpec : ChangeSpec := { name := "hostlogNone", fn := fun _ => fun
  | [d] => { results := [.lit (.bool true)], args := [d] }
  | _ => none }
def hostlogNoneRow : OpenClaim := { program := "ytiepipcankhdnaagreatdoor", sum := "ca549f4c5a955d9b1d1eb36ccdacefcb8182f84abb9c60c5c34d1f0bd7f9bd0a", func := "spoor/spoorlaw06.HostlogNone", spec := "hostlogNone", inPlace := ["slices.overlaps[spoor/hostlog.segment]", "slices.overlaps[string]", "internal/abi.NoEscape"], unfollowed := true, recurses := true, named := ["internal/strconv.uint64pow10", "math/bits.deBruijn32tab", "math/bits.deBruijn64tab", "strconv.ErrSyntax", "strconv.ErrRange"], apart := false, laid := [("math/bits.deBruijn32tab", laid_math_bits_deBruijn32tab), ("math/bits.deBruijn64tab", laid_math_bits_deBruijn64tab), ("internal/strconv.uint64pow10", laid_internal_strconv_uint64pow10), ("strconv.ErrRange", laid_strconv_ErrRange), ("strconv.ErrSyntax", laid_strconv_ErrSyntax)] }
def HostlogNoneSaid : Prop := hostlogNoneRow.holds Tryz.pinned (OpenSpec.ofChange hostlogNoneSpec)

/-- ITS FALSE NEIGHBOUR: 'it returns false'. Refute it at one input. -/
def hostlogNoneWrong : ChangeSpec := { name := "hostlogNone", fn := fun _ => fun
  | [d] => { results := [.lit (.bool false)], args := [d] }
  | _ => none }
def HostlogNoneWrongFalsely : Prop := hostlogNoneRow.holds Tryz.pinned (OpenSpec.ofChange hostlogNoneWrong)

/-- 'spoorlaw06.HostlogRetain': WHATEVER THE INPUT: true; the input reads as it did. -/
def hostlogRetainSpec : ChangeSpec := { name := "hostlogRetain", fn := fun _ => fun
  | [d1, d2, d3] => { results := [.lit (.bool true)], args := [d1, d2, d3] }
  | _ => none }
def hostlogRetainRow : OpenClaim := { program := "ytiepipcankhdnaagreatdoor", sum := "ca549f4c5a955d9b1d1eb36ccdacefcb8182f84abb9c60c5c34d1f0bd7f9bd0a", func := "spoor/spoorlaw06.HostlogRetain", spec := "hostlogRetain", inPlace := ["slices.overlaps[spoor/hostlog.segment]", "slices.overlaps[string]", "internal/abi.NoEscape"], unfollowed := true, recurses := true, named := ["strconv.ErrSyntax", "strconv.ErrRange", "internal/strconv.uint64pow10", "math/bits.deBruijn32tab", "math/bits.deBruijn64tab"], apart := false, laid := [("math/bits.deBruijn32tab", laid_math_bits_deBruijn32tab), ("math/bits.deBruijn64tab", laid_math_bits_deBruijn64tab), ("internal/strconv.uint64pow10", laid_internal_strconv_uint64pow10), ("strconv.ErrRange", laid_strconv_ErrRange), ("strconv.ErrSyntax", laid_strconv_ErrSyntax)] }
def HostlogRetainSaid : Prop := hostlogRetainRow.holds Tryz.pinned (OpenSpec.ofChange hostlogRetainSpec)

/-- ITS FALSE NEIGHBOUR: 'it returns false'. Refute it at one input. -/
def hostlogRetainWrong : ChangeSpec := { name := "hostlogRetain", fn := fun _ => fun
  | [d1, d2, d3] => { results := [.lit (.bool false)], args := [d1, d2, d3] }
  | _ => none }
def HostlogRetainWrongFalsely : Prop := hostlogRetainRow.holds Tryz.pinned (OpenSpec.ofChange hostlogRetainWrong)

/-- 'spoorlaw06.HostlogKeep': WHATEVER THE INPUT: true; the input reads as it did. -/
def hostlogKeepSpec : ChangeSpec := { name := "hostlogKeep", fn := fun _ => fun
  | [d1, d2] => { results := [.lit (.bool true)], args := [d1, d2] }
  | _ => none }
def hostlogKeepRow : OpenClaim := { program := "ytiepipcankhdnaagreatdoor", sum := "ca549f4c5a955d9b1d1eb36ccdacefcb8182f84abb9c60c5c34d1f0bd7f9bd0a", func := "spoor/spoorlaw06.HostlogKeep", spec := "hostlogKeep", inPlace := ["slices.overlaps[spoor/hostlog.segment]", "slices.overlaps[string]", "internal/abi.NoEscape"], unfollowed := true, recurses := true, named := ["strconv.ErrSyntax", "strconv.ErrRange", "internal/strconv.uint64pow10", "math/bits.deBruijn32tab", "math/bits.deBruijn64tab"], apart := false, laid := [("math/bits.deBruijn32tab", laid_math_bits_deBruijn32tab), ("math/bits.deBruijn64tab", laid_math_bits_deBruijn64tab), ("internal/strconv.uint64pow10", laid_internal_strconv_uint64pow10), ("strconv.ErrRange", laid_strconv_ErrRange), ("strconv.ErrSyntax", laid_strconv_ErrSyntax)] }
def HostlogKeepSaid : Prop := hostlogKeepRow.holds Tryz.pinned (OpenSpec.ofChange hostlogKeepSpec)

/-- ITS FALSE NEIGHBOUR: 'it returns false'. Refute it at one input. -/
def hostlogKeepWrong : ChangeSpec := { name := "hostlogKeep", fn := fun _ => fun
  | [d1, d2] => { results := [.lit (.bool false)], args := [d1, d2] }
  | _ => none }
def HostlogKeepWrongFalsely : Prop := hostlogKeepRow.holds Tryz.pinned (OpenSpec.ofChange hostlogKeepWrong)

/-- 'spoorlaw06.HostlogTorn': WHATEVER THE INPUT: true; the input reads as it did. -/
def hostlogTornSpec : ChangeSpec := { name := "hostlogTorn", fn := fun _ => fun
  | [d1, d2, d3] => { results := [.lit (.bool true)], args := [d1, d2, d3] }
  | _ => none }
def hostlogTornRow : OpenClaim := { program := "ytiepipcankhdnaagreatdoor", sum := "ca549f4c5a955d9b1d1eb36ccdacefcb8182f84abb9c60c5c34d1f0bd7f9bd0a", func := "spoor/spoorlaw06.HostlogTorn", spec := "hostlogTorn", inPlace := ["slices.overlaps[spoor/hostlog.segment]", "slices.overlaps[string]", "internal/abi.NoEscape"], unfollowed := true, recurses := true, named := ["strconv.ErrSyntax", "strconv.ErrRange", "internal/strconv.uint64pow10", "math/bits.deBruijn32tab", "math/bits.deBruijn64tab"], apart := false, laid := [("math/bits.deBruijn32tab", laid_math_bits_deBruijn32tab), ("math/bits.deBruijn64tab", laid_math_bits_deBruijn64tab), ("internal/strconv.uint64pow10", laid_internal_strconv_uint64pow10), ("strconv.ErrRange", laid_strconv_ErrRange), ("strconv.ErrSyntax", laid_strconv_ErrSyntax)] }
def HostlogTornSaid : Prop := hostlogTornRow.holds Tryz.pinned (OpenSpec.ofChange hostlogTornSpec)

/-- ITS FALSE NEIGHBOUR: 'it returns false'. Refute it at one input. -/
def hostlogTornWrong : ChangeSpec := { name := "hostlogTorn", fn := fun _ => fun
  | [d1, d2, d3] => { results := [.lit (.bool false)], args := [d1, d2, d3] }
  | _ => none }
def HostlogTornWrongFalsely : Prop := hostlogTornRow.holds Tryz.pinned (OpenSpec.ofChange hostlogTornWrong)

/-- 'spoorlaw06.HostlogPlays': WHATEVER THE INPUT: true; the input reads as it did. -/
def hostlogPlaysSpec : ChangeSpec := { name := "hostlogPlays", fn := fun _ => fun
  | [d1, d2] => { results := [.lit (.bool true)], args := [d1, d2] }
  | _ => none }
def hostlogPlaysRow : OpenClaim := { program := "ytiepipcankhdnaagreatdoor", sum := "ca549f4c5a955d9b1d1eb36ccdacefcb8182f84abb9c60c5c34d1f0bd7f9bd0a", func := "spoor/spoorlaw06.HostlogPlays", spec := "hostlogPlays", inPlace := ["slices.overlaps[spoor/hostlog.segment]", "slices.overlaps[string]", "internal/abi.NoEscape"], unfollowed := true, recurses := true, named := ["strconv.ErrSyntax", "strconv.ErrRange", "internal/strconv.uint64pow10", "math/bits.deBruijn32tab", "math/bits.deBruijn64tab"], apart := false, laid := [("math/bits.deBruijn32tab", laid_math_bits_deBruijn32tab), ("math/bits.deBruijn64tab", laid_math_bits_deBruijn64tab), ("internal/strconv.uint64pow10", laid_internal_strconv_uint64pow10), ("strconv.ErrRange", laid_strconv_ErrRange), ("strconv.ErrSyntax", laid_strconv_ErrSyntax)] }
def HostlogPlaysSaid : Prop := hostlogPlaysRow.holds Tryz.pinned (OpenSpec.ofChange hostlogPlaysSpec)

/-- ITS FALSE NEIGHBOUR: 'it returns false'. Refute it at one input. -/
def hostlogPlaysWrong : ChangeSpec := { name := "hostlogPlays", fn := fun _ => fun
  | [d1, d2] => { results := [.lit (.bool false)], args := [d1, d2] }
  | _ => none }
def HostlogPlaysWrongFalsely : Prop := hostlogPlaysRow.holds Tryz.pinned (OpenSpec.ofChange hostlogPlaysWrong)

/-- 'spoorlaw06.HostlogTwice': WHATEVER THE INPUT: true; the input reads as it did. -/
def hostlogTwiceSpec : ChangeSpec := { name := "hostlogTwice", fn := fun _ => fun
  | [d1, d2] => { results := [.lit (.bool true)], args := [d1, d2] }
  | _ => none }
def hostlogTwiceRow : OpenClaim := { program := "ytiepipcankhdnaagreatdoor", sum := "ca549f4c5a955d9b1d1eb36ccdacefcb8182f84abb9c60c5c34d1f0bd7f9bd0a", func := "spoor/spoorlaw06.HostlogTwice", spec := "hostlogTwice", inPlace := ["slices.overlaps[spoor/hostlog.segment]", "slices.overlaps[string]", "internal/abi.NoEscape"], unfollowed := true, recurses := true, named := ["strconv.ErrSyntax", "strconv.ErrRange", "internal/strconv.uint64pow10", "math/bits.deBruijn32tab", "math/bits.deBruijn64tab"], apart := false, laid := [("math/bits.deBruijn32tab", laid_math_bits_deBruijn32tab), ("math/bits.deBruijn64tab", laid_math_bits_deBruijn64tab), ("internal/strconv.uint64pow10", laid_internal_strconv_uint64pow10), ("strconv.ErrRange", laid_strconv_ErrRange), ("strconv.ErrSyntax", laid_strconv_ErrSyntax)] }
def HostlogTwiceSaid : Prop := hostlogTwiceRow.holds Tryz.pinned (OpenSpec.ofChange hostlogTwiceSpec)

/-- ITS FALSE NEIGHBOUR: 'it returns false'. Refute it at one input. -/
def hostlogTwiceWrong : ChangeSpec := { name := "hostlogTwice", fn := fun _ => fun
  | [d1, d2] => { results := [.lit (.bool false)], args := [d1, d2] }
  | _ => none }
def HostlogTwiceWrongFalsely : Prop := hostlogTwiceRow.holds Tryz.pinned (OpenSpec.ofChange hostlogTwiceWrong)

/- THE SECOND FORM. 'bulk': how many values and letters a reading holds, each counted each time it is reached (what is shared counts as often as it is met; a slice's spare places count too). A statement '..UptoSaid' is the law's where the arguments, and the package variables that the reading takes, are together of bulk at most 1048576: NARROWER than '..Said'. Prove '..Said' where nothing that the law and all that it calls make is longer than what came in: it says more and counts as full. Else prove '..UptoSaid'. A law counts once. -/
mutual
def uptoBulk {H : Type} : DataW H → Nat
  | .lit (.string bytes) => bytes.length + 1
  | .lit _ => 1
  | .nil => 1
  | .ptr d => uptoBulk d + 1
  | .slice elems spare => uptoBulkAll elems + uptoBulkAll spare + 1
  | .agg parts => uptoBulkAll parts + 1
  | .iface _ d => uptoBulk d + 1
  | .map entries => uptoBulkEntries entries + 1
  | .held _ => 1
def uptoBulkAll {H : Type} : List (DataW H) → Nat
  | [] => 0
  | d :: r => uptoBulk d + uptoBulkAll r
def uptoBulkEntries {H : Type} : List (Lit × DataW H) → Nat
  | [] => 0
  | x :: r => uptoBulkEntry x + uptoBulkEntries r
def uptoBulkEntry {H : Type} : Lit × DataW H → Nat
  | (.string bytes, d) => bytes.length + uptoBulk d + 1
  | (_, d) => uptoBulk d + 1
 end
def uptoSmall : (H : Type) → List (DataW H) → Bool := fun _ ds => decide (uptoBulkAll ds ≤ 1048576)
def OpenSpec.upto (s : _root_.Go.ChangeSpec) : _root_.Go.OpenSpec := { _root_.Go.OpenSpec.ofChange s with cond := some uptoSmall }

/-- 'spoorlaw06.HostlogBack', WHERE WHAT IT READS IS OF BULK AT MOST 1048576: true; the input reads as it did. -/
def hostlogBackUptoRow : OpenClaim := { program := "ytiepipcankhdnaagreatdoor", sum := "ca549f4c5a955d9b1d1eb36ccdacefcb8182f84abb9c60c5c34d1f0bd7f9bd0a", func := "spoor/spoorlaw06.HostlogBack", spec := "hostlogBack", inPlace := ["slices.overlaps[spoor/hostlog.segment]", "slices.overlaps[string]", "internal/abi.NoEscape"], unfollowed := true, recurses := true, named := ["strconv.ErrSyntax", "strconv.ErrRange", "internal/strconv.uint64pow10", "math/bits.deBruijn32tab", "math/bits.deBruijn64tab"], apart := false, laid := [("math/bits.deBruijn32tab", laid_math_bits_deBruijn32tab), ("math/bits.deBruijn64tab", laid_math_bits_deBruijn64tab), ("internal/strconv.uint64pow10", laid_internal_strconv_uint64pow10), ("strconv.ErrRange", laid_strconv_ErrRange), ("strconv.ErrSyntax", laid_strconv_ErrSyntax)], narrowed := true }
def HostlogBackUptoSaid : Prop := hostlogBackUptoRow.holds Tryz.pinned (OpenSpec.upto hostlogBackSpec)

/-- 'spoorlaw06.HostlogNone', WHERE WHAT IT READS IS OF BULK AT MOST 1048576: true; the input reads as it did. -/
def hostlogNoneUptoRow : OpenClaim := { program := "ytiepipcankhdnaagreatdoor", sum := "ca549f4c5a955d9b1d1eb36ccdacefcb8182f84abb9c60c5c34d1f0bd7f9bd0a", func := "spoor/spoorlaw06.HostlogNone", spec := "hostlogNone", inPlace := ["slices.overlaps[spoor/hostlog.segment]", "slices.overlaps[string]", "internal/abi.NoEscape"], unfollowed := true, recurses := true, named := ["internal/strconv.uint64pow10", "math/bits.deBruijn32tab", "math/bits.deBruijn64tab", "strconv.ErrSyntax", "strconv.ErrRange"], apart := false, laid := [("math/bits.deBruijn32tab", laid_math_bits_deBruijn32tab), ("math/bits.deBruijn64tab", laid_math_bits_deBruijn64tab), ("internal/strconv.uint64pow10", laid_internal_strconv_uint64pow10), ("strconv.ErrRange", laid_strconv_ErrRange), ("strconv.ErrSyntax", laid_strconv_ErrSyntax)], narrowed := true }
def HostlogNoneUptoSaid : Prop := hostlogNoneUptoRow.holds Tryz.pinned (OpenSpec.upto hostlogNoneSpec)

/-- 'spoorlaw06.HostlogRetain', WHERE WHAT IT READS IS OF BULK AT MOST 1048576: true; the input reads as it did. -/
def hostlogRetainUptoRow : OpenClaim := { program := "ytiepipcankhdnaagreatdoor", sum := "ca549f4c5a955d9b1d1eb36ccdacefcb8182f84abb9c60c5c34d1f0bd7f9bd0a", func := "spoor/spoorlaw06.HostlogRetain", spec := "hostlogRetain", inPlace := ["slices.overlaps[spoor/hostlog.segment]", "slices.overlaps[string]", "internal/abi.NoEscape"], unfollowed := true, recurses := true, named := ["strconv.ErrSyntax", "strconv.ErrRange", "internal/strconv.uint64pow10", "math/bits.deBruijn32tab", "math/bits.deBruijn64tab"], apart := false, laid := [("math/bits.deBruijn32tab", laid_math_bits_deBruijn32tab), ("math/bits.deBruijn64tab", laid_math_bits_deBruijn64tab), ("internal/strconv.uint64pow10", laid_internal_strconv_uint64pow10), ("strconv.ErrRange", laid_strconv_ErrRange), ("strconv.ErrSyntax", laid_strconv_ErrSyntax)], narrowed := true }
def HostlogRetainUptoSaid : Prop := hostlogRetainUptoRow.holds Tryz.pinned (OpenSpec.upto hostlogRetainSpec)

/-- 'spoorlaw06.HostlogKeep', WHERE WHAT IT READS IS OF BULK AT MOST 1048576: true; the input reads as it did. -/
def hostlogKeepUptoRow : OpenClaim := { program := "ytiepipcankhdnaagreatdoor", sum := "ca549f4c5a955d9b1d1eb36ccdacefcb8182f84abb9c60c5c34d1f0bd7f9bd0a", func := "spoor/spoorlaw06.HostlogKeep", spec := "hostlogKeep", inPlace := ["slices.overlaps[spoor/hostlog.segment]", "slices.overlaps[string]", "internal/abi.NoEscape"], unfollowed := true, recurses := true, named := ["strconv.ErrSyntax", "strconv.ErrRange", "internal/strconv.uint64pow10", "math/bits.deBruijn32tab", "math/bits.deBruijn64tab"], apart := false, laid := [("math/bits.deBruijn32tab", laid_math_bits_deBruijn32tab), ("math/bits.deBruijn64tab", laid_math_bits_deBruijn64tab), ("internal/strconv.uint64pow10", laid_internal_strconv_uint64pow10), ("strconv.ErrRange", laid_strconv_ErrRange), ("strconv.ErrSyntax", laid_strconv_ErrSyntax)], narrowed := true }
def HostlogKeepUptoSaid : Prop := hostlogKeepUptoRow.holds Tryz.pinned (OpenSpec.upto hostlogKeepSpec)

/-- 'spoorlaw06.HostlogTorn', WHERE WHAT IT READS IS OF BULK AT MOST 1048576: true; the input reads as it did. -/
def hostlogTornUptoRow : OpenClaim := { program := "ytiepipcankhdnaagreatdoor", sum := "ca549f4c5a955d9b1d1eb36ccdacefcb8182f84abb9c60c5c34d1f0bd7f9bd0a", func := "spoor/spoorlaw06.HostlogTorn", spec := "hostlogTorn", inPlace := ["slices.overlaps[spoor/hostlog.segment]", "slices.overlaps[string]", "internal/abi.NoEscape"], unfollowed := true, recurses := true, named := ["strconv.ErrSyntax", "strconv.ErrRange", "internal/strconv.uint64pow10", "math/bits.deBruijn32tab", "math/bits.deBruijn64tab"], apart := false, laid := [("math/bits.deBruijn32tab", laid_math_bits_deBruijn32tab), ("math/bits.deBruijn64tab", laid_math_bits_deBruijn64tab), ("internal/strconv.uint64pow10", laid_internal_strconv_uint64pow10), ("strconv.ErrRange", laid_strconv_ErrRange), ("strconv.ErrSyntax", laid_strconv_ErrSyntax)], narrowed := true }
def HostlogTornUptoSaid : Prop := hostlogTornUptoRow.holds Tryz.pinned (OpenSpec.upto hostlogTornSpec)

/-- 'spoorlaw06.HostlogPlays', WHERE WHAT IT READS IS OF BULK AT MOST 1048576: true; the input reads as it did. -/
def hostlogPlaysUptoRow : OpenClaim := { program := "ytiepipcankhdnaagreatdoor", sum := "ca549f4c5a955d9b1d1eb36ccdacefcb8182f84abb9c60c5c34d1f0bd7f9bd0a", func := "spoor/spoorlaw06.HostlogPlays", spec := "hostlogPlays", inPlace := ["slices.overlaps[spoor/hostlog.segment]", "slices.overlaps[string]", "internal/abi.NoEscape"], unfollowed := true, recurses := true, named := ["strconv.ErrSyntax", "strconv.ErrRange", "internal/strconv.uint64pow10", "math/bits.deBruijn32tab", "math/bits.deBruijn64tab"], apart := false, laid := [("math/bits.deBruijn32tab", laid_math_bits_deBruijn32tab), ("math/bits.deBruijn64tab", laid_math_bits_deBruijn64tab), ("internal/strconv.uint64pow10", laid_internal_strconv_uint64pow10), ("strconv.ErrRange", laid_strconv_ErrRange), ("strconv.ErrSyntax", laid_strconv_ErrSyntax)], narrowed := true }
def HostlogPlaysUptoSaid : Prop := hostlogPlaysUptoRow.holds Tryz.pinned (OpenSpec.upto hostlogPlaysSpec)

/-- 'spoorlaw06.HostlogTwice', WHERE WHAT IT READS IS OF BULK AT MOST 1048576: true; the input reads as it did. -/
def hostlogTwiceUptoRow : OpenClaim := { program := "ytiepipcankhdnaagreatdoor", sum := "ca549f4c5a955d9b1d1eb36ccdacefcb8182f84abb9c60c5c34d1f0bd7f9bd0a", func := "spoor/spoorlaw06.HostlogTwice", spec := "hostlogTwice", inPlace := ["slices.overlaps[spoor/hostlog.segment]", "slices.overlaps[string]", "internal/abi.NoEscape"], unfollowed := true, recurses := true, named := ["strconv.ErrSyntax", "strconv.ErrRange", "internal/strconv.uint64pow10", "math/bits.deBruijn32tab", "math/bits.deBruijn64tab"], apart := false, laid := [("math/bits.deBruijn32tab", laid_math_bits_deBruijn32tab), ("math/bits.deBruijn64tab", laid_math_bits_deBruijn64tab), ("internal/strconv.uint64pow10", laid_internal_strconv_uint64pow10), ("strconv.ErrRange", laid_strconv_ErrRange), ("strconv.ErrSyntax", laid_strconv_ErrSyntax)], narrowed := true }
def HostlogTwiceUptoSaid : Prop := hostlogTwiceUptoRow.holds Tryz.pinned (OpenSpec.upto hostlogTwiceSpec)

end Rows
end Go.Proofs.YtiepipcankhdnaaGreatDoor
