/-
  DERIVED. GIVEN WITH THE SEED: THE CARDS: each row of YtdacanghbepjpaaGreatDoorRows.lean that lists a variable, with what it lists TIED to the program's text (the seventh form; the later family's looks); each row that meets fmt, with fmt's text TOLD by the authors' own Lean function (tested against real Go, not proved from fmt's source: count such statements apart). THE CARD IS WHAT COUNTS. Prove the row's statement (the work); the ties are given (YtdacanghbepjpaaGreatDoorTie.lean); close each card by the builder's one call (the guide's Derived/Test/ToyasCard.lean, 'card_holds'). Laid BY PROGRAM, IN A SANDBOX (cutbox-door.mjs). By AI agents, Wed Nov 11 2026. No macro, syntax, notation, axiom, sorry.
-/
import Derived.Test.YtdacanghbepjpaaGreatDoorRows
import GoSem.ClaimSeven
namespace Go.Proofs.YtdacanghbepjpaaGreatDoor
namespace Rows

/-- THE TIED CARD OF 'spoorlaw24.DaemonNone'. -/
def daemonNoneCard : Claim7 := { stood := { row := daemonNoneRow, standIns := [], harness := (true, "453ece12a8645f069509dee2dbe12b35ddac2d334aad71cfa4534a33abe7e37b"), looks := true }, kinds := [], alts := [], laidByText := true, laidKinds := [.data, .data, .data, .sentinel, .sentinel], laidTests := true, laidLooks := .later }
def DaemonNoneCardSaid : Prop := Claim7.holds Tryz.pinned (.plain (OpenSpec.ofChange daemonNoneSpec)) daemonNoneCard

/-- THE TIED CARD OF 'spoorlaw24.DaemonTotal'. -/
def daemonTotalCard : Claim7 := { stood := { row := daemonTotalRow, standIns := [], harness := (true, "453ece12a8645f069509dee2dbe12b35ddac2d334aad71cfa4534a33abe7e37b"), looks := true }, kinds := [], alts := [], laidByText := true, laidKinds := [.data, .data, .data, .sentinel, .sentinel], laidTests := true, laidLooks := .later }
def DaemonTotalCardSaid : Prop := Claim7.holds Tryz.pinned (.plain (OpenSpec.ofChange daemonTotalSpec)) daemonTotalCard

/-- THE TIED CARD OF 'spoorlaw24.DaemonSends'. -/
def daemonSendsCard : Claim7 := { stood := { row := daemonSendsRow, standIns := [], harness := (true, "453ece12a8645f069509dee2dbe12b35ddac2d334aad71cfa4534a33abe7e37b"), looks := true }, kinds := [], alts := [], laidByText := true, laidKinds := [.data, .data, .data, .sentinel, .sentinel], laidTests := true, laidLooks := .later }
def DaemonSendsCardSaid : Prop := Claim7.holds Tryz.pinned (.plain (OpenSpec.ofChange daemonSendsSpec)) daemonSendsCard

/-- THE TIED CARD OF 'spoorlaw24.DaemonPlays'. -/
def daemonPlaysCard : Claim7 := { stood := { row := daemonPlaysRow, standIns := [], harness := (true, "453ece12a8645f069509dee2dbe12b35ddac2d334aad71cfa4534a33abe7e37b"), looks := true }, kinds := [], alts := [], laidByText := true, laidKinds := [.data, .data, .data, .sentinel, .sentinel], laidTests := true, laidLooks := .later }
def DaemonPlaysCardSaid : Prop := Claim7.holds Tryz.pinned (.plain (OpenSpec.ofChange daemonPlaysSpec)) daemonPlaysCard

/-- THE TIED CARD OF 'spoorlaw24.DaemonCrash'. -/
def daemonCrashCard : Claim7 := { stood := { row := daemonCrashRow, standIns := [], harness := (true, "453ece12a8645f069509dee2dbe12b35ddac2d334aad71cfa4534a33abe7e37b"), looks := true }, kinds := [], alts := [], laidByText := true, laidKinds := [.data, .data, .data, .sentinel, .sentinel], laidTests := true, laidLooks := .later }
def DaemonCrashCardSaid : Prop := Claim7.holds Tryz.pinned (.plain (OpenSpec.ofChange daemonCrashSpec)) daemonCrashCard

/-- THE TIED CARD OF 'spoorlaw25.HostsSame'. -/
def hostsSameCard : Claim7 := { stood := { row := hostsSameRow, standIns := [], harness := (true, "453ece12a8645f069509dee2dbe12b35ddac2d334aad71cfa4534a33abe7e37b"), looks := true }, kinds := [], alts := [], laidByText := true, laidKinds := [.data, .data, .data, .sentinel, .sentinel], laidTests := true, laidLooks := .later }
def HostsSameCardSaid : Prop := Claim7.holds Tryz.pinned (.plain (OpenSpec.ofChange hostsSameSpec)) hostsSameCard

/-- THE TIED CARD OF 'spoorlaw25.HostsSure'. -/
def hostsSureCard : Claim7 := { stood := { row := hostsSureRow, standIns := [], harness := (true, "453ece12a8645f069509dee2dbe12b35ddac2d334aad71cfa4534a33abe7e37b"), looks := true }, kinds := [], alts := [], laidByText := true, laidKinds := [.data, .data, .data, .sentinel, .sentinel], laidTests := true, laidLooks := .later }
def HostsSureCardSaid : Prop := Claim7.holds Tryz.pinned (.plain (OpenSpec.ofChange hostsSureSpec)) hostsSureCard

/-- THE TIED CARD OF 'spoorlaw25.HostsCalm'. -/
def hostsCalmCard : Claim7 := { stood := { row := hostsCalmRow, standIns := [], harness := (true, "453ece12a8645f069509dee2dbe12b35ddac2d334aad71cfa4534a33abe7e37b"), looks := true }, kinds := [], alts := [], laidByText := true, laidKinds := [.data, .data, .data, .sentinel, .sentinel], laidTests := true, laidLooks := .later }
def HostsCalmCardSaid : Prop := Claim7.holds Tryz.pinned (.plain (OpenSpec.ofChange hostsCalmSpec)) hostsCalmCard

/-- THE TIED CARD OF 'spoorlaw25.HostsPlay'. -/
def hostsPlayCard : Claim7 := { stood := { row := hostsPlayRow, standIns := [], harness := (true, "453ece12a8645f069509dee2dbe12b35ddac2d334aad71cfa4534a33abe7e37b"), looks := true }, kinds := [], alts := [], laidByText := true, laidKinds := [.data, .data, .data, .sentinel, .sentinel], laidTests := true, laidLooks := .later }
def HostsPlayCardSaid : Prop := Claim7.holds Tryz.pinned (.plain (OpenSpec.ofChange hostsPlaySpec)) hostsPlayCard

/-- THE TIED CARD OF 'spoorlaw25.HostsNone'. -/
def hostsNoneCard : Claim7 := { stood := { row := hostsNoneRow, standIns := [], harness := (true, "453ece12a8645f069509dee2dbe12b35ddac2d334aad71cfa4534a33abe7e37b"), looks := true }, kinds := [], alts := [], laidByText := true, laidKinds := [.data, .data, .data, .sentinel, .sentinel], laidTests := true, laidLooks := .later }
def HostsNoneCardSaid : Prop := Claim7.holds Tryz.pinned (.plain (OpenSpec.ofChange hostsNoneSpec)) hostsNoneCard

/-- THE SECOND FORM's CARD OF 'spoorlaw24.DaemonNone'. -/
def daemonNoneUptoCard : Claim7 := { stood := { row := daemonNoneUptoRow, standIns := [], harness := (true, "453ece12a8645f069509dee2dbe12b35ddac2d334aad71cfa4534a33abe7e37b"), looks := true }, kinds := [], alts := [], laidByText := true, laidKinds := [.data, .data, .data, .sentinel, .sentinel], laidTests := true, laidLooks := .later }
def DaemonNoneUptoCardSaid : Prop := Claim7.holds Tryz.pinned (.plain (OpenSpec.upto daemonNoneSpec)) daemonNoneUptoCard

/-- THE SECOND FORM's CARD OF 'spoorlaw24.DaemonTotal'. -/
def daemonTotalUptoCard : Claim7 := { stood := { row := daemonTotalUptoRow, standIns := [], harness := (true, "453ece12a8645f069509dee2dbe12b35ddac2d334aad71cfa4534a33abe7e37b"), looks := true }, kinds := [], alts := [], laidByText := true, laidKinds := [.data, .data, .data, .sentinel, .sentinel], laidTests := true, laidLooks := .later }
def DaemonTotalUptoCardSaid : Prop := Claim7.holds Tryz.pinned (.plain (OpenSpec.upto daemonTotalSpec)) daemonTotalUptoCard

/-- THE SECOND FORM's CARD OF 'spoorlaw24.DaemonSends'. -/
def daemonSendsUptoCard : Claim7 := { stood := { row := daemonSendsUptoRow, standIns := [], harness := (true, "453ece12a8645f069509dee2dbe12b35ddac2d334aad71cfa4534a33abe7e37b"), looks := true }, kinds := [], alts := [], laidByText := true, laidKinds := [.data, .data, .data, .sentinel, .sentinel], laidTests := true, laidLooks := .later }
def DaemonSendsUptoCardSaid : Prop := Claim7.holds Tryz.pinned (.plain (OpenSpec.upto daemonSendsSpec)) daemonSendsUptoCard

/-- THE SECOND FORM's CARD OF 'spoorlaw24.DaemonPlays'. -/
def daemonPlaysUptoCard : Claim7 := { stood := { row := daemonPlaysUptoRow, standIns := [], harness := (true, "453ece12a8645f069509dee2dbe12b35ddac2d334aad71cfa4534a33abe7e37b"), looks := true }, kinds := [], alts := [], laidByText := true, laidKinds := [.data, .data, .data, .sentinel, .sentinel], laidTests := true, laidLooks := .later }
def DaemonPlaysUptoCardSaid : Prop := Claim7.holds Tryz.pinned (.plain (OpenSpec.upto daemonPlaysSpec)) daemonPlaysUptoCard

/-- THE SECOND FORM's CARD OF 'spoorlaw24.DaemonCrash'. -/
def daemonCrashUptoCard : Claim7 := { stood := { row := daemonCrashUptoRow, standIns := [], harness := (true, "453ece12a8645f069509dee2dbe12b35ddac2d334aad71cfa4534a33abe7e37b"), looks := true }, kinds := [], alts := [], laidByText := true, laidKinds := [.data, .data, .data, .sentinel, .sentinel], laidTests := true, laidLooks := .later }
def DaemonCrashUptoCardSaid : Prop := Claim7.holds Tryz.pinned (.plain (OpenSpec.upto daemonCrashSpec)) daemonCrashUptoCard

/-- THE SECOND FORM's CARD OF 'spoorlaw25.HostsSame'. -/
def hostsSameUptoCard : Claim7 := { stood := { row := hostsSameUptoRow, standIns := [], harness := (true, "453ece12a8645f069509dee2dbe12b35ddac2d334aad71cfa4534a33abe7e37b"), looks := true }, kinds := [], alts := [], laidByText := true, laidKinds := [.data, .data, .data, .sentinel, .sentinel], laidTests := true, laidLooks := .later }
def HostsSameUptoCardSaid : Prop := Claim7.holds Tryz.pinned (.plain (OpenSpec.upto hostsSameSpec)) hostsSameUptoCard

/-- THE SECOND FORM's CARD OF 'spoorlaw25.HostsSure'. -/
def hostsSureUptoCard : Claim7 := { stood := { row := hostsSureUptoRow, standIns := [], harness := (true, "453ece12a8645f069509dee2dbe12b35ddac2d334aad71cfa4534a33abe7e37b"), looks := true }, kinds := [], alts := [], laidByText := true, laidKinds := [.data, .data, .data, .sentinel, .sentinel], laidTests := true, laidLooks := .later }
def HostsSureUptoCardSaid : Prop := Claim7.holds Tryz.pinned (.plain (OpenSpec.upto hostsSureSpec)) hostsSureUptoCard

/-- THE SECOND FORM's CARD OF 'spoorlaw25.HostsCalm'. -/
def hostsCalmUptoCard : Claim7 := { stood := { row := hostsCalmUptoRow, standIns := [], harness := (true, "453ece12a8645f069509dee2dbe12b35ddac2d334aad71cfa4534a33abe7e37b"), looks := true }, kinds := [], alts := [], laidByText := true, laidKinds := [.data, .data, .data, .sentinel, .sentinel], laidTests := true, laidLooks := .later }
def HostsCalmUptoCardSaid : Prop := Claim7.holds Tryz.pinned (.plain (OpenSpec.upto hostsCalmSpec)) hostsCalmUptoCard

/-- THE SECOND FORM's CARD OF 'spoorlaw25.HostsPlay'. -/
def hostsPlayUptoCard : Claim7 := { stood := { row := hostsPlayUptoRow, standIns := [], harness := (true, "453ece12a8645f069509dee2dbe12b35ddac2d334aad71cfa4534a33abe7e37b"), looks := true }, kinds := [], alts := [], laidByText := true, laidKinds := [.data, .data, .data, .sentinel, .sentinel], laidTests := true, laidLooks := .later }
def HostsPlayUptoCardSaid : Prop := Claim7.holds Tryz.pinned (.plain (OpenSpec.upto hostsPlaySpec)) hostsPlayUptoCard

/-- THE SECOND FORM's CARD OF 'spoorlaw25.HostsNone'. -/
def hostsNoneUptoCard : Claim7 := { stood := { row := hostsNoneUptoRow, standIns := [], harness := (true, "453ece12a8645f069509dee2dbe12b35ddac2d334aad71cfa4534a33abe7e37b"), looks := true }, kinds := [], alts := [], laidByText := true, laidKinds := [.data, .data, .data, .sentinel, .sentinel], laidTests := true, laidLooks := .later }
def HostsNoneUptoCardSaid : Prop := Claim7.holds Tryz.pinned (.plain (OpenSpec.upto hostsNoneSpec)) hostsNoneUptoCard
end Rows
end Go.Proofs.YtdacanghbepjpaaGreatDoor
