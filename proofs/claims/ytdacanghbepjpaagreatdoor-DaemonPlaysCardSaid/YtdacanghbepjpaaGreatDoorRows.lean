/-
  NARROWER THAN 'FOR EVERY INPUT', by the rows' own cells (each row's printed sentence says how): DaemonNone: laid · DaemonTotal: laid · DaemonSends: laid · DaemonPlays: laid · DaemonCrash: laid · HostsSame: laid · HostsSure: laid · HostsCalm: laid · HostsPlay: laid · HostsNone: laid.
  DERIVED. THE GIVEN ROWS OF THIS SEAT. 10 by the template 'for every input the law returns true; each argument reads behind the call as it read before'; 0 by the template 'total and deterministic' (their statements: YtdacanghbepjpaaGreatDoorTotals.lean).
  GIVEN WITH THE SEED: the statements are not yours to turn. If you find one false, say at which input.
  Laid BY PROGRAM, IN A SANDBOX (cutbox-rows.mjs): the forced cells as the released guide's own fill.sh prints them over the translation 14eaea6a7e98b3bc… (all of the seat's roots in one cut). By AI agents, Wed Nov 11 2026. No macro, syntax, notation, axiom, sorry.
-/
import Derived.Test.YtdacanghbepjpaaGreatDoorChecked
import GoSem.Claim
import GoSem.ClaimJoined
import GoSem.ClaimMapViews
import Derived.JoinedTies
import Derived.KernelRfl
namespace Go.Proofs.YtdacanghbepjpaaGreatDoor
/- THE CELL 'sum', in the pinned program and in every row, IS THE sha256 OF THE DUMP (.gsa) THAT YtdacanghbepjpaaGreatDoorProg.lean LOADS. Nothing in Lean hashes anything: it is a label: what it is worth is what the hold of that sum in a sandbox is worth. -/
noncomputable def Tryz.pinned : Pinned := { name := "ytdacanghbepjpaagreatdoor", sum := "14eaea6a7e98b3bce15775e920b693acb560db7194463f317e22a9322ad5674f", checked := Tryz.checked }
namespace Rows
def none {H : Type} : Left H := { results := [], args := [] }

/- WHAT THE LISTED PACKAGE-LEVEL VARIABLES READ AS WHEN THE CALL BEGINS. Each datum BY PROGRAM (the guide's laid-datum.mjs) off the statement by which the dump's own 'gosem.cut.vars' lays the variable. In a bare row this is a premise. The card (YtdacanghbepjpaaGreatDoorCards.lean) ties it to the program's text. -/
def laid_math_bits_deBruijn32tab {H : Type} : DataW H := .agg [.lit (.int .u8 0), .lit (.int .u8 1), .lit (.int .u8 28), .lit (.int .u8 2), .lit (.int .u8 29), .lit (.int .u8 14), .lit (.int .u8 24), .lit (.int .u8 3), .lit (.int .u8 30), .lit (.int .u8 22), .lit (.int .u8 20), .lit (.int .u8 15), .lit (.int .u8 25), .lit (.int .u8 17), .lit (.int .u8 4), .lit (.int .u8 8), .lit (.int .u8 31), .lit (.int .u8 27), .lit (.int .u8 13), .lit (.int .u8 23), .lit (.int .u8 21), .lit (.int .u8 19), .lit (.int .u8 16), .lit (.int .u8 7), .lit (.int .u8 26), .lit (.int .u8 12), .lit (.int .u8 18), .lit (.int .u8 6), .lit (.int .u8 11), .lit (.int .u8 5), .lit (.int .u8 10), .lit (.int .u8 9)]
def laid_math_bits_deBruijn64tab {H : Type} : DataW H := .agg [.lit (.int .u8 0), .lit (.int .u8 1), .lit (.int .u8 56), .lit (.int .u8 2), .lit (.int .u8 57), .lit (.int .u8 49), .lit (.int .u8 28), .lit (.int .u8 3), .lit (.int .u8 61), .lit (.int .u8 58), .lit (.int .u8 42), .lit (.int .u8 50), .lit (.int .u8 38), .lit (.int .u8 29), .lit (.int .u8 17), .lit (.int .u8 4), .lit (.int .u8 62), .lit (.int .u8 47), .lit (.int .u8 59), .lit (.int .u8 36), .lit (.int .u8 45), .lit (.int .u8 43), .lit (.int .u8 51), .lit (.int .u8 22), .lit (.int .u8 53), .lit (.int .u8 39), .lit (.int .u8 33), .lit (.int .u8 30), .lit (.int .u8 24), .lit (.int .u8 18), .lit (.int .u8 12), .lit (.int .u8 5), .lit (.int .u8 63), .lit (.int .u8 55), .lit (.int .u8 48), .lit (.int .u8 27), .lit (.int .u8 60), .lit (.int .u8 41), .lit (.int .u8 37), .lit (.int .u8 16), .lit (.int .u8 46), .lit (.int .u8 35), .lit (.int .u8 44), .lit (.int .u8 21), .lit (.int .u8 52), .lit (.int .u8 32), .lit (.int .u8 23), .lit (.int .u8 11), .lit (.int .u8 54), .lit (.int .u8 26), .lit (.int .u8 40), .lit (.int .u8 15), .lit (.int .u8 34), .lit (.int .u8 20), .lit (.int .u8 31), .lit (.int .u8 10), .lit (.int .u8 25), .lit (.int .u8 14), .lit (.int .u8 19), .lit (.int .u8 9), .lit (.int .u8 13), .lit (.int .u8 8), .lit (.int .u8 7), .lit (.int .u8 6)]
def laid_internal_strconv_uint64pow10 {H : Type} : DataW H := .agg [.lit (.int .u64 1), .lit (.int .u64 10), .lit (.int .u64 100), .lit (.int .u64 1000), .lit (.int .u64 10000), .lit (.int .u64 100000), .lit (.int .u64 1000000), .lit (.int .u64 10000000), .lit (.int .u64 100000000), .lit (.int .u64 1000000000), .lit (.int .u64 10000000000), .lit (.int .u64 100000000000), .lit (.int .u64 1000000000000), .lit (.int .u64 10000000000000), .lit (.int .u64 100000000000000), .lit (.int .u64 1000000000000000), .lit (.int .u64 10000000000000000), .lit (.int .u64 100000000000000000), .lit (.int .u64 1000000000000000000), .lit (.int .u64 10000000000000000000)]
def laid_strconv_ErrRange {H : Type} : DataW H := .iface "*errors.errorString" (.ptr (.agg [.lit (.string [118, 97, 108, 117, 101, 32, 111, 117, 116, 32, 111, 102, 32, 114, 97, 110, 103, 101])]))
def laid_strconv_ErrSyntax {H : Type} : DataW H := .iface "*errors.errorString" (.ptr (.agg [.lit (.string [105, 110, 118, 97, 108, 105, 100, 32, 115, 121, 110, 116, 97, 120])]))

/-- 'spoorlaw24.DaemonNone': WHATEVER THE INPUT: true; the input reads as it did. -/
def daemonNoneSpec : ChangeSpec := { name := "daemonNone", fn := fun _ => fun
  | [d1, d2, d3] => { results := [.lit (.bool true)], args := [d1, d2, d3] }
  | _ => none }
def daemonNoneRow : OpenClaim := { program := "ytdacanghbepjpaagreatdoor", sum := "14eaea6a7e98b3bce15775e920b693acb560db7194463f317e22a9322ad5674f", func := "spoor/spoorlaw24.DaemonNone", spec := "daemonNone", inPlace := ["slices.overlaps[spoor/hostlog.segment]", "slices.overlaps[string]", "internal/abi.NoEscape"], unfollowed := true, recurses := true, named := ["strconv.ErrSyntax", "strconv.ErrRange", "internal/strconv.uint64pow10", "math/bits.deBruijn32tab", "math/bits.deBruijn64tab"], apart := false, laid := [("math/bits.deBruijn32tab", laid_math_bits_deBruijn32tab), ("math/bits.deBruijn64tab", laid_math_bits_deBruijn64tab), ("internal/strconv.uint64pow10", laid_internal_strconv_uint64pow10), ("strconv.ErrRange", laid_strconv_ErrRange), ("strconv.ErrSyntax", laid_strconv_ErrSyntax)] }
def DaemonNoneSaid : Prop := daemonNoneRow.holds Tryz.pinned (OpenSpec.ofChange daemonNoneSpec)

/-- ITS FALSE NEIGHBOUR: 'it returns false'. Refute it at one input. -/
def daemonNoneWrong : ChangeSpec := { name := "daemonNone", fn := fun _ => fun
  | [d1, d2, d3] => { results := [.lit (.bool false)], args := [d1, d2, d3] }
  | _ => none }
def DaemonNoneWrongFalsely : Prop := daemonNoneRow.holds Tryz.pinned (OpenSpec.ofChange daemonNoneWrong)

/-- 'spoorlaw24.DaemonTotal': WHATEVER THE INPUT: true; the input reads as it did. -/
def daemonTotalSpec : ChangeSpec := { name := "daemonTotal", fn := fun _ => fun
  | [d1, d2] => { results := [.lit (.bool true)], args := [d1, d2] }
  | _ => none }
def daemonTotalRow : OpenClaim := { program := "ytdacanghbepjpaagreatdoor", sum := "14eaea6a7e98b3bce15775e920b693acb560db7194463f317e22a9322ad5674f", func := "spoor/spoorlaw24.DaemonTotal", spec := "daemonTotal", inPlace := ["slices.overlaps[spoor/hostlog.segment]", "slices.overlaps[string]", "internal/abi.NoEscape"], unfollowed := true, recurses := true, named := ["strconv.ErrSyntax", "strconv.ErrRange", "internal/strconv.uint64pow10", "math/bits.deBruijn32tab", "math/bits.deBruijn64tab"], apart := false, laid := [("math/bits.deBruijn32tab", laid_math_bits_deBruijn32tab), ("math/bits.deBruijn64tab", laid_math_bits_deBruijn64tab), ("internal/strconv.uint64pow10", laid_internal_strconv_uint64pow10), ("strconv.ErrRange", laid_strconv_ErrRange), ("strconv.ErrSyntax", laid_strconv_ErrSyntax)] }
def DaemonTotalSaid : Prop := daemonTotalRow.holds Tryz.pinned (OpenSpec.ofChange daemonTotalSpec)

/-- ITS FALSE NEIGHBOUR: 'it returns false'. Refute it at one input. -/
def daemonTotalWrong : ChangeSpec := { name := "daemonTotal", fn := fun _ => fun
  | [d1, d2] => { results := [.lit (.bool false)], args := [d1, d2] }
  | _ => none }
def DaemonTotalWrongFalsely : Prop := daemonTotalRow.holds Tryz.pinned (OpenSpec.ofChange daemonTotalWrong)

/-- 'spoorlaw24.DaemonSends': WHATEVER THE INPUT: true; the input reads as it did. -/
def daemonSendsSpec : ChangeSpec := { name := "daemonSends", fn := fun _ => fun
  | [d1, d2] => { results := [.lit (.bool true)], args := [d1, d2] }
  | _ => none }
def daemonSendsRow : OpenClaim := { program := "ytdacanghbepjpaagreatdoor", sum := "14eaea6a7e98b3bce15775e920b693acb560db7194463f317e22a9322ad5674f", func := "spoor/spoorlaw24.DaemonSends", spec := "daemonSends", inPlace := ["slices.overlaps[spoor/hostlog.segment]", "slices.overlaps[string]", "internal/abi.NoEscape"], unfollowed := true, recurses := true, named := ["strconv.ErrSyntax", "strconv.ErrRange", "internal/strconv.uint64pow10", "math/bits.deBruijn32tab", "math/bits.deBruijn64tab"], apart := false, laid := [("math/bits.deBruijn32tab", laid_math_bits_deBruijn32tab), ("math/bits.deBruijn64tab", laid_math_bits_deBruijn64tab), ("internal/strconv.uint64pow10", laid_internal_strconv_uint64pow10), ("strconv.ErrRange", laid_strconv_ErrRange), ("strconv.ErrSyntax", laid_strconv_ErrSyntax)] }
def DaemonSendsSaid : Prop := daemonSendsRow.holds Tryz.pinned (OpenSpec.ofChange daemonSendsSpec)

/-- ITS FALSE NEIGHBOUR: 'it returns false'. Refute it at one input. -/
def daemonSendsWrong : ChangeSpec := { name := "daemonSends", fn := fun _ => fun
  | [d1, d2] => { results := [.lit (.bool false)], args := [d1, d2] }
  | _ => none }
def DaemonSendsWrongFalsely : Prop := daemonSendsRow.holds Tryz.pinned (OpenSpec.ofChange daemonSendsWrong)

/-- 'spoorlaw24.DaemonPlays': WHATEVER THE INPUT: true; the input reads as it did. -/
def daemonPlaysSpec : ChangeSpec := { name := "daemonPlays", fn := fun _ => fun
  | [d1, d2] => { results := [.lit (.bool true)], args := [d1, d2] }
  | _ => none }
def daemonPlaysRow : OpenClaim := { program := "ytdacanghbepjpaagreatdoor", sum := "14eaea6a7e98b3bce15775e920b693acb560db7194463f317e22a9322ad5674f", func := "spoor/spoorlaw24.DaemonPlays", spec := "daemonPlays", inPlace := ["slices.overlaps[spoor/hostlog.segment]", "slices.overlaps[string]", "internal/abi.NoEscape"], unfollowed := true, recurses := true, named := ["strconv.ErrSyntax", "strconv.ErrRange", "internal/strconv.uint64pow10", "math/bits.deBruijn32tab", "math/bits.deBruijn64tab"], apart := false, laid := [("math/bits.deBruijn32tab", laid_math_bits_deBruijn32tab), ("math/bits.deBruijn64tab", laid_math_bits_deBruijn64tab), ("internal/strconv.uint64pow10", laid_internal_strconv_uint64pow10), ("strconv.ErrRange", laid_strconv_ErrRange), ("strconv.ErrSyntax", laid_strconv_ErrSyntax)] }
def DaemonPlaysSaid : Prop := daemonPlaysRow.holds Tryz.pinned (OpenSpec.ofChange daemonPlaysSpec)

/-- ITS FALSE NEIGHBOUR: 'it returns false'. Refute it at one input. -/
def daemonPlaysWrong : ChangeSpec := { name := "daemonPlays", fn := fun _ => fun
  | [d1, d2] => { results := [.lit (.bool false)], args := [d1, d2] }
  | _ => none }
def DaemonPlaysWrongFalsely : Prop := daemonPlaysRow.holds Tryz.pinned (OpenSpec.ofChange daemonPlaysWrong)

/-- 'spoorlaw24.DaemonCrash': WHATEVER THE INPUT: true; the input reads as it did. -/
def daemonCrashSpec : ChangeSpec := { name := "daemonCrash", fn := fun _ => fun
  | [d1, d2, d3] => { results := [.lit (.bool true)], args := [d1, d2, d3] }
  | _ => none }
def daemonCrashRow : OpenClaim := { program := "ytdacanghbepjpaagreatdoor", sum := "14eaea6a7e98b3bce15775e920b693acb560db7194463f317e22a9322ad5674f", func := "spoor/spoorlaw24.DaemonCrash", spec := "daemonCrash", inPlace := ["slices.overlaps[spoor/hostlog.segment]", "slices.overlaps[string]", "internal/abi.NoEscape"], unfollowed := true, recurses := true, named := ["strconv.ErrSyntax", "strconv.ErrRange", "internal/strconv.uint64pow10", "math/bits.deBruijn32tab", "math/bits.deBruijn64tab"], apart := false, laid := [("math/bits.deBruijn32tab", laid_math_bits_deBruijn32tab), ("math/bits.deBruijn64tab", laid_math_bits_deBruijn64tab), ("internal/strconv.uint64pow10", laid_internal_strconv_uint64pow10), ("strconv.ErrRange", laid_strconv_ErrRange), ("strconv.ErrSyntax", laid_strconv_ErrSyntax)] }
def DaemonCrashSaid : Prop := daemonCrashRow.holds Tryz.pinned (OpenSpec.ofChange daemonCrashSpec)

/-- ITS FALSE NEIGHBOUR: 'it returns false'. Refute it at one input. -/
def daemonCrashWrong : ChangeSpec := { name := "daemonCrash", fn := fun _ => fun
  | [d1, d2, d3] => { results := [.lit (.bool false)], args := [d1, d2, d3] }
  | _ => none }
def DaemonCrashWrongFalsely : Prop := daemonCrashRow.holds Tryz.pinned (OpenSpec.ofChange daemonCrashWrong)

/-- 'spoorlaw25.HostsSame': WHATEVER THE INPUT: true; the input reads as it did. -/
def hostsSameSpec : ChangeSpec := { name := "hostsSame", fn := fun _ => fun
  | [d] => { results := [.lit (.bool true)], args := [d] }
  | _ => none }
def hostsSameRow : OpenClaim := { program := "ytdacanghbepjpaagreatdoor", sum := "14eaea6a7e98b3bce15775e920b693acb560db7194463f317e22a9322ad5674f", func := "spoor/spoorlaw25.HostsSame", spec := "hostsSame", inPlace := ["slices.overlaps[spoor/hostlog.segment]", "slices.overlaps[string]", "internal/abi.NoEscape"], unfollowed := true, recurses := true, named := ["strconv.ErrSyntax", "strconv.ErrRange", "internal/strconv.uint64pow10", "math/bits.deBruijn32tab", "math/bits.deBruijn64tab"], apart := false, laid := [("math/bits.deBruijn32tab", laid_math_bits_deBruijn32tab), ("math/bits.deBruijn64tab", laid_math_bits_deBruijn64tab), ("internal/strconv.uint64pow10", laid_internal_strconv_uint64pow10), ("strconv.ErrRange", laid_strconv_ErrRange), ("strconv.ErrSyntax", laid_strconv_ErrSyntax)] }
def HostsSameSaid : Prop := hostsSameRow.holds Tryz.pinned (OpenSpec.ofChange hostsSameSpec)

/-- ITS FALSE NEIGHBOUR: 'it returns false'. Refute it at one input. -/
def hostsSameWrong : ChangeSpec := { name := "hostsSame", fn := fun _ => fun
  | [d] => { results := [.lit (.bool false)], args := [d] }
  | _ => none }
def HostsSameWrongFalsely : Prop := hostsSameRow.holds Tryz.pinned (OpenSpec.ofChange hostsSameWrong)

/-- 'spoorlaw25.HostsSure': WHATEVER THE INPUT: true; the input reads as it did. -/
def hostsSureSpec : ChangeSpec := { name := "hostsSure", fn := fun _ => fun
  | [d] => { results := [.lit (.bool true)], args := [d] }
  | _ => none }
def hostsSureRow : OpenClaim := { program := "ytdacanghbepjpaagreatdoor", sum := "14eaea6a7e98b3bce15775e920b693acb560db7194463f317e22a9322ad5674f", func := "spoor/spoorlaw25.HostsSure", spec := "hostsSure", inPlace := ["slices.overlaps[spoor/hostlog.segment]", "slices.overlaps[string]", "internal/abi.NoEscape"], unfollowed := true, recurses := true, named := ["strconv.ErrSyntax", "strconv.ErrRange", "internal/strconv.uint64pow10", "math/bits.deBruijn32tab", "math/bits.deBruijn64tab"], apart := false, laid := [("math/bits.deBruijn32tab", laid_math_bits_deBruijn32tab), ("math/bits.deBruijn64tab", laid_math_bits_deBruijn64tab), ("internal/strconv.uint64pow10", laid_internal_strconv_uint64pow10), ("strconv.ErrRange", laid_strconv_ErrRange), ("strconv.ErrSyntax", laid_strconv_ErrSyntax)] }
def HostsSureSaid : Prop := hostsSureRow.holds Tryz.pinned (OpenSpec.ofChange hostsSureSpec)

/-- ITS FALSE NEIGHBOUR: 'it returns false'. Refute it at one input. -/
def hostsSureWrong : ChangeSpec := { name := "hostsSure", fn := fun _ => fun
  | [d] => { results := [.lit (.bool false)], args := [d] }
  | _ => none }
def HostsSureWrongFalsely : Prop := hostsSureRow.holds Tryz.pinned (OpenSpec.ofChange hostsSureWrong)

/-- 'spoorlaw25.HostsCalm': WHATEVER THE INPUT: true; the input reads as it did. -/
def hostsCalmSpec : ChangeSpec := { name := "hostsCalm", fn := fun _ => fun
  | [d1, d2] => { results := [.lit (.bool true)], args := [d1, d2] }
  | _ => none }
def hostsCalmRow : OpenClaim := { program := "ytdacanghbepjpaagreatdoor", sum := "14eaea6a7e98b3bce15775e920b693acb560db7194463f317e22a9322ad5674f", func := "spoor/spoorlaw25.HostsCalm", spec := "hostsCalm", inPlace := ["slices.overlaps[spoor/hostlog.segment]", "slices.overlaps[string]", "internal/abi.NoEscape"], unfollowed := true, recurses := true, named := ["strconv.ErrSyntax", "strconv.ErrRange", "internal/strconv.uint64pow10", "math/bits.deBruijn32tab", "math/bits.deBruijn64tab"], apart := false, laid := [("math/bits.deBruijn32tab", laid_math_bits_deBruijn32tab), ("math/bits.deBruijn64tab", laid_math_bits_deBruijn64tab), ("internal/strconv.uint64pow10", laid_internal_strconv_uint64pow10), ("strconv.ErrRange", laid_strconv_ErrRange), ("strconv.ErrSyntax", laid_strconv_ErrSyntax)] }
def HostsCalmSaid : Prop := hostsCalmRow.holds Tryz.pinned (OpenSpec.ofChange hostsCalmSpec)

/-- ITS FALSE NEIGHBOUR: 'it returns false'. Refute it at one input. -/
def hostsCalmWrong : ChangeSpec := { name := "hostsCalm", fn := fun _ => fun
  | [d1, d2] => { results := [.lit (.bool false)], args := [d1, d2] }
  | _ => none }
def HostsCalmWrongFalsely : Prop := hostsCalmRow.holds Tryz.pinned (OpenSpec.ofChange hostsCalmWrong)

/-- 'spoorlaw25.HostsPlay': WHATEVER THE INPUT: true; the input reads as it did. -/
def hostsPlaySpec : ChangeSpec := { name := "hostsPlay", fn := fun _ => fun
  | [d1, d2] => { results := [.lit (.bool true)], args := [d1, d2] }
  | _ => none }
def hostsPlayRow : OpenClaim := { program := "ytdacanghbepjpaagreatdoor", sum := "14eaea6a7e98b3bce15775e920b693acb560db7194463f317e22a9322ad5674f", func := "spoor/spoorlaw25.HostsPlay", spec := "hostsPlay", inPlace := ["slices.overlaps[spoor/hostlog.segment]", "slices.overlaps[string]", "internal/abi.NoEscape"], unfollowed := true, recurses := true, named := ["strconv.ErrSyntax", "strconv.ErrRange", "internal/strconv.uint64pow10", "math/bits.deBruijn32tab", "math/bits.deBruijn64tab"], apart := false, laid := [("math/bits.deBruijn32tab", laid_math_bits_deBruijn32tab), ("math/bits.deBruijn64tab", laid_math_bits_deBruijn64tab), ("internal/strconv.uint64pow10", laid_internal_strconv_uint64pow10), ("strconv.ErrRange", laid_strconv_ErrRange), ("strconv.ErrSyntax", laid_strconv_ErrSyntax)] }
def HostsPlaySaid : Prop := hostsPlayRow.holds Tryz.pinned (OpenSpec.ofChange hostsPlaySpec)

/-- ITS FALSE NEIGHBOUR: 'it returns false'. Refute it at one input. -/
def hostsPlayWrong : ChangeSpec := { name := "hostsPlay", fn := fun _ => fun
  | [d1, d2] => { results := [.lit (.bool false)], args := [d1, d2] }
  | _ => none }
def HostsPlayWrongFalsely : Prop := hostsPlayRow.holds Tryz.pinned (OpenSpec.ofChange hostsPlayWrong)

/-- 'spoorlaw25.HostsNone': WHATEVER THE INPUT: true; the input reads as it did. -/
def hostsNoneSpec : ChangeSpec := { name := "hostsNone", fn := fun _ => fun
  | [d1, d2, d3] => { results := [.lit (.bool true)], args := [d1, d2, d3] }
  | _ => none }
def hostsNoneRow : OpenClaim := { program := "ytdacanghbepjpaagreatdoor", sum := "14eaea6a7e98b3bce15775e920b693acb560db7194463f317e22a9322ad5674f", func := "spoor/spoorlaw25.HostsNone", spec := "hostsNone", inPlace := ["slices.overlaps[spoor/hostlog.segment]", "slices.overlaps[string]", "internal/abi.NoEscape"], unfollowed := true, recurses := true, named := ["strconv.ErrSyntax", "strconv.ErrRange", "internal/strconv.uint64pow10", "math/bits.deBruijn32tab", "math/bits.deBruijn64tab"], apart := false, laid := [("math/bits.deBruijn32tab", laid_math_bits_deBruijn32tab), ("math/bits.deBruijn64tab", laid_math_bits_deBruijn64tab), ("internal/strconv.uint64pow10", laid_internal_strconv_uint64pow10), ("strconv.ErrRange", laid_strconv_ErrRange), ("strconv.ErrSyntax", laid_strconv_ErrSyntax)] }
def HostsNoneSaid : Prop := hostsNoneRow.holds Tryz.pinned (OpenSpec.ofChange hostsNoneSpec)

/-- ITS FALSE NEIGHBOUR: 'it returns false'. Refute it at one input. -/
def hostsNoneWrong : ChangeSpec := { name := "hostsNone", fn := fun _ => fun
  | [d1, d2, d3] => { results := [.lit (.bool false)], args := [d1, d2, d3] }
  | _ => none }
def HostsNoneWrongFalsely : Prop := hostsNoneRow.holds Tryz.pinned (OpenSpec.ofChange hostsNoneWrong)

/- THE SECOND FORM. 'bulk': how many values and letters a reading holds, each counted each time it is reached (what is shared counts as often as it is met; a slice's spare places count too). A statement '..UptoSaid' is the law's where the arguments, and the package variables that the reading takes, are together of bulk at most 1048576: NARROWER than '..Said'. Prove '..Said' where nothing that the law and all that it calls make is longer than what came in: it says more and counts as full. Else prove '..UptoSaid'. A law counts once. -/
mutual
def uptoBulk {H : Type} : DataW H → Nat
  | .lit (.string bytes) => bytes.length + 1
  | .lit _ => 1
  | .nil => 1
  | .ptr d => uptoBulk d + 1
  | .slice elems spare => uptoBulkAll elems + uptoBulkAll spare + 1
  | .agg parts => uptoBulkAll parts + 1
  | .iface _ d => uptoBulk d + 1
  | .map entries => uptoBulkEntries entries + 1
  | .held _ => 1
def uptoBulkAll {H : Type} : List (DataW H) → Nat
  | [] => 0
  | d :: r => uptoBulk d + uptoBulkAll r
def uptoBulkEntries {H : Type} : List (Lit × DataW H) → Nat
  | [] => 0
  | x :: r => uptoBulkEntry x + uptoBulkEntries r
def uptoBulkEntry {H : Type} : Lit × DataW H → Nat
  | (.string bytes, d) => bytes.length + uptoBulk d + 1
  | (_, d) => uptoBulk d + 1
 end
def uptoSmall : (H : Type) → List (DataW H) → Bool := fun _ ds => decide (uptoBulkAll ds ≤ 1048576)
def OpenSpec.upto (s : _root_.Go.ChangeSpec) : _root_.Go.OpenSpec := { _root_.Go.OpenSpec.ofChange s with cond := some uptoSmall }

/-- 'spoorlaw24.DaemonNone', WHERE WHAT IT READS IS OF BULK AT MOST 1048576: true; the input reads as it did. -/
def daemonNoneUptoRow : OpenClaim := { program := "ytdacanghbepjpaagreatdoor", sum := "14eaea6a7e98b3bce15775e920b693acb560db7194463f317e22a9322ad5674f", func := "spoor/spoorlaw24.DaemonNone", spec := "daemonNone", inPlace := ["slices.overlaps[spoor/hostlog.segment]", "slices.overlaps[string]", "internal/abi.NoEscape"], unfollowed := true, recurses := true, named := ["strconv.ErrSyntax", "strconv.ErrRange", "internal/strconv.uint64pow10", "math/bits.deBruijn32tab", "math/bits.deBruijn64tab"], apart := false, laid := [("math/bits.deBruijn32tab", laid_math_bits_deBruijn32tab), ("math/bits.deBruijn64tab", laid_math_bits_deBruijn64tab), ("internal/strconv.uint64pow10", laid_internal_strconv_uint64pow10), ("strconv.ErrRange", laid_strconv_ErrRange), ("strconv.ErrSyntax", laid_strconv_ErrSyntax)], narrowed := true }
def DaemonNoneUptoSaid : Prop := daemonNoneUptoRow.holds Tryz.pinned (OpenSpec.upto daemonNoneSpec)

/-- 'spoorlaw24.DaemonTotal', WHERE WHAT IT READS IS OF BULK AT MOST 1048576: true; the input reads as it did. -/
def daemonTotalUptoRow : OpenClaim := { program := "ytdacanghbepjpaagreatdoor", sum := "14eaea6a7e98b3bce15775e920b693acb560db7194463f317e22a9322ad5674f", func := "spoor/spoorlaw24.DaemonTotal", spec := "daemonTotal", inPlace := ["slices.overlaps[spoor/hostlog.segment]", "slices.overlaps[string]", "internal/abi.NoEscape"], unfollowed := true, recurses := true, named := ["strconv.ErrSyntax", "strconv.ErrRange", "internal/strconv.uint64pow10", "math/bits.deBruijn32tab", "math/bits.deBruijn64tab"], apart := false, laid := [("math/bits.deBruijn32tab", laid_math_bits_deBruijn32tab), ("math/bits.deBruijn64tab", laid_math_bits_deBruijn64tab), ("internal/strconv.uint64pow10", laid_internal_strconv_uint64pow10), ("strconv.ErrRange", laid_strconv_ErrRange), ("strconv.ErrSyntax", laid_strconv_ErrSyntax)], narrowed := true }
def DaemonTotalUptoSaid : Prop := daemonTotalUptoRow.holds Tryz.pinned (OpenSpec.upto daemonTotalSpec)

/-- 'spoorlaw24.DaemonSends', WHERE WHAT IT READS IS OF BULK AT MOST 1048576: true; the input reads as it did. -/
def daemonSendsUptoRow : OpenClaim := { program := "ytdacanghbepjpaagreatdoor", sum := "14eaea6a7e98b3bce15775e920b693acb560db7194463f317e22a9322ad5674f", func := "spoor/spoorlaw24.DaemonSends", spec := "daemonSends", inPlace := ["slices.overlaps[spoor/hostlog.segment]", "slices.overlaps[string]", "internal/abi.NoEscape"], unfollowed := true, recurses := true, named := ["strconv.ErrSyntax", "strconv.ErrRange", "internal/strconv.uint64pow10", "math/bits.deBruijn32tab", "math/bits.deBruijn64tab"], apart := false, laid := [("math/bits.deBruijn32tab", laid_math_bits_deBruijn32tab), ("math/bits.deBruijn64tab", laid_math_bits_deBruijn64tab), ("internal/strconv.uint64pow10", laid_internal_strconv_uint64pow10), ("strconv.ErrRange", laid_strconv_ErrRange), ("strconv.ErrSyntax", laid_strconv_ErrSyntax)], narrowed := true }
def DaemonSendsUptoSaid : Prop := daemonSendsUptoRow.holds Tryz.pinned (OpenSpec.upto daemonSendsSpec)

/-- 'spoorlaw24.DaemonPlays', WHERE WHAT IT READS IS OF BULK AT MOST 1048576: true; the input reads as it did. -/
def daemonPlaysUptoRow : OpenClaim := { program := "ytdacanghbepjpaagreatdoor", sum := "14eaea6a7e98b3bce15775e920b693acb560db7194463f317e22a9322ad5674f", func := "spoor/spoorlaw24.DaemonPlays", spec := "daemonPlays", inPlace := ["slices.overlaps[spoor/hostlog.segment]", "slices.overlaps[string]", "internal/abi.NoEscape"], unfollowed := true, recurses := true, named := ["strconv.ErrSyntax", "strconv.ErrRange", "internal/strconv.uint64pow10", "math/bits.deBruijn32tab", "math/bits.deBruijn64tab"], apart := false, laid := [("math/bits.deBruijn32tab", laid_math_bits_deBruijn32tab), ("math/bits.deBruijn64tab", laid_math_bits_deBruijn64tab), ("internal/strconv.uint64pow10", laid_internal_strconv_uint64pow10), ("strconv.ErrRange", laid_strconv_ErrRange), ("strconv.ErrSyntax", laid_strconv_ErrSyntax)], narrowed := true }
def DaemonPlaysUptoSaid : Prop := daemonPlaysUptoRow.holds Tryz.pinned (OpenSpec.upto daemonPlaysSpec)

/-- 'spoorlaw24.DaemonCrash', WHERE WHAT IT READS IS OF BULK AT MOST 1048576: true; the input reads as it did. -/
def daemonCrashUptoRow : OpenClaim := { program := "ytdacanghbepjpaagreatdoor", sum := "14eaea6a7e98b3bce15775e920b693acb560db7194463f317e22a9322ad5674f", func := "spoor/spoorlaw24.DaemonCrash", spec := "daemonCrash", inPlace := ["slices.overlaps[spoor/hostlog.segment]", "slices.overlaps[string]", "internal/abi.NoEscape"], unfollowed := true, recurses := true, named := ["strconv.ErrSyntax", "strconv.ErrRange", "internal/strconv.uint64pow10", "math/bits.deBruijn32tab", "math/bits.deBruijn64tab"], apart := false, laid := [("math/bits.deBruijn32tab", laid_math_bits_deBruijn32tab), ("math/bits.deBruijn64tab", laid_math_bits_deBruijn64tab), ("internal/strconv.uint64pow10", laid_internal_strconv_uint64pow10), ("strconv.ErrRange", laid_strconv_ErrRange), ("strconv.ErrSyntax", laid_strconv_ErrSyntax)], narrowed := true }
def DaemonCrashUptoSaid : Prop := daemonCrashUptoRow.holds Tryz.pinned (OpenSpec.upto daemonCrashSpec)

/-- 'spoorlaw25.HostsSame', WHERE WHAT IT READS IS OF BULK AT MOST 1048576: true; the input reads as it did. -/
def hostsSameUptoRow : OpenClaim := { program := "ytdacanghbepjpaagreatdoor", sum := "14eaea6a7e98b3bce15775e920b693acb560db7194463f317e22a9322ad5674f", func := "spoor/spoorlaw25.HostsSame", spec := "hostsSame", inPlace := ["slices.overlaps[spoor/hostlog.segment]", "slices.overlaps[string]", "internal/abi.NoEscape"], unfollowed := true, recurses := true, named := ["strconv.ErrSyntax", "strconv.ErrRange", "internal/strconv.uint64pow10", "math/bits.deBruijn32tab", "math/bits.deBruijn64tab"], apart := false, laid := [("math/bits.deBruijn32tab", laid_math_bits_deBruijn32tab), ("math/bits.deBruijn64tab", laid_math_bits_deBruijn64tab), ("internal/strconv.uint64pow10", laid_internal_strconv_uint64pow10), ("strconv.ErrRange", laid_strconv_ErrRange), ("strconv.ErrSyntax", laid_strconv_ErrSyntax)], narrowed := true }
def HostsSameUptoSaid : Prop := hostsSameUptoRow.holds Tryz.pinned (OpenSpec.upto hostsSameSpec)

/-- 'spoorlaw25.HostsSure', WHERE WHAT IT READS IS OF BULK AT MOST 1048576: true; the input reads as it did. -/
def hostsSureUptoRow : OpenClaim := { program := "ytdacanghbepjpaagreatdoor", sum := "14eaea6a7e98b3bce15775e920b693acb560db7194463f317e22a9322ad5674f", func := "spoor/spoorlaw25.HostsSure", spec := "hostsSure", inPlace := ["slices.overlaps[spoor/hostlog.segment]", "slices.overlaps[string]", "internal/abi.NoEscape"], unfollowed := true, recurses := true, named := ["strconv.ErrSyntax", "strconv.ErrRange", "internal/strconv.uint64pow10", "math/bits.deBruijn32tab", "math/bits.deBruijn64tab"], apart := false, laid := [("math/bits.deBruijn32tab", laid_math_bits_deBruijn32tab), ("math/bits.deBruijn64tab", laid_math_bits_deBruijn64tab), ("internal/strconv.uint64pow10", laid_internal_strconv_uint64pow10), ("strconv.ErrRange", laid_strconv_ErrRange), ("strconv.ErrSyntax", laid_strconv_ErrSyntax)], narrowed := true }
def HostsSureUptoSaid : Prop := hostsSureUptoRow.holds Tryz.pinned (OpenSpec.upto hostsSureSpec)

/-- 'spoorlaw25.HostsCalm', WHERE WHAT IT READS IS OF BULK AT MOST 1048576: true; the input reads as it did. -/
def hostsCalmUptoRow : OpenClaim := { program := "ytdacanghbepjpaagreatdoor", sum := "14eaea6a7e98b3bce15775e920b693acb560db7194463f317e22a9322ad5674f", func := "spoor/spoorlaw25.HostsCalm", spec := "hostsCalm", inPlace := ["slices.overlaps[spoor/hostlog.segment]", "slices.overlaps[string]", "internal/abi.NoEscape"], unfollowed := true, recurses := true, named := ["strconv.ErrSyntax", "strconv.ErrRange", "internal/strconv.uint64pow10", "math/bits.deBruijn32tab", "math/bits.deBruijn64tab"], apart := false, laid := [("math/bits.deBruijn32tab", laid_math_bits_deBruijn32tab), ("math/bits.deBruijn64tab", laid_math_bits_deBruijn64tab), ("internal/strconv.uint64pow10", laid_internal_strconv_uint64pow10), ("strconv.ErrRange", laid_strconv_ErrRange), ("strconv.ErrSyntax", laid_strconv_ErrSyntax)], narrowed := true }
def HostsCalmUptoSaid : Prop := hostsCalmUptoRow.holds Tryz.pinned (OpenSpec.upto hostsCalmSpec)

/-- 'spoorlaw25.HostsPlay', WHERE WHAT IT READS IS OF BULK AT MOST 1048576: true; the input reads as it did. -/
def hostsPlayUptoRow : OpenClaim := { program := "ytdacanghbepjpaagreatdoor", sum := "14eaea6a7e98b3bce15775e920b693acb560db7194463f317e22a9322ad5674f", func := "spoor/spoorlaw25.HostsPlay", spec := "hostsPlay", inPlace := ["slices.overlaps[spoor/hostlog.segment]", "slices.overlaps[string]", "internal/abi.NoEscape"], unfollowed := true, recurses := true, named := ["strconv.ErrSyntax", "strconv.ErrRange", "internal/strconv.uint64pow10", "math/bits.deBruijn32tab", "math/bits.deBruijn64tab"], apart := false, laid := [("math/bits.deBruijn32tab", laid_math_bits_deBruijn32tab), ("math/bits.deBruijn64tab", laid_math_bits_deBruijn64tab), ("internal/strconv.uint64pow10", laid_internal_strconv_uint64pow10), ("strconv.ErrRange", laid_strconv_ErrRange), ("strconv.ErrSyntax", laid_strconv_ErrSyntax)], narrowed := true }
def HostsPlayUptoSaid : Prop := hostsPlayUptoRow.holds Tryz.pinned (OpenSpec.upto hostsPlaySpec)

/-- 'spoorlaw25.HostsNone', WHERE WHAT IT READS IS OF BULK AT MOST 1048576: true; the input reads as it did. -/
def hostsNoneUptoRow : OpenClaim := { program := "ytdacanghbepjpaagreatdoor", sum := "14eaea6a7e98b3bce15775e920b693acb560db7194463f317e22a9322ad5674f", func := "spoor/spoorlaw25.HostsNone", spec := "hostsNone", inPlace := ["slices.overlaps[spoor/hostlog.segment]", "slices.overlaps[string]", "internal/abi.NoEscape"], unfollowed := true, recurses := true, named := ["strconv.ErrSyntax", "strconv.ErrRange", "internal/strconv.uint64pow10", "math/bits.deBruijn32tab", "math/bits.deBruijn64tab"], apart := false, laid := [("math/bits.deBruijn32tab", laid_math_bits_deBruijn32tab), ("math/bits.deBruijn64tab", laid_math_bits_deBruijn64tab), ("internal/strconv.uint64pow10", laid_internal_strconv_uint64pow10), ("strconv.ErrRange", laid_strconv_ErrRange), ("strconv.ErrSyntax", laid_strconv_ErrSyntax)], narrowed := true }
def HostsNoneUptoSaid : Prop := hostsNoneUptoRow.holds Tryz.pinned (OpenSpec.upto hostsNoneSpec)

end Rows
end Go.Proofs.YtdacanghbepjpaaGreatDoor
