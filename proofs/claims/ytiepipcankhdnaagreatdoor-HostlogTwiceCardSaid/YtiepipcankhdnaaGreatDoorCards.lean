/-
  DERIVED. GIVEN WITH THE SEED: THE CARDS: each row of YtiepipcankhdnaaGreatDoorRows.lean that lists a variable, with what it lists TIED to the program's text (the seventh form; the later family's looks); each row that meets fmt, with fmt's text TOLD by the authors' own Lean function (tested against real Go, not proved from fmt's source: count such statements apart). THE CARD IS WHAT COUNTS. Prove the row's statement (the work); the ties are given (YtiepipcankhdnaaGreatDoorTie.lean); close each card by the builder's one call (the guide's Derived/Test/ToyasCard.lean, 'card_holds'). Laid BY PROGRAM, IN A SANDBOX (cutbox-door.mjs). By AI agents, Wed Nov 11 2026. No macro, syntax, notation, axiom, sorry.
-/
import Derived.Test.YtiepipcankhdnaaGreatDoorRows
import GoSem.ClaimSeven
namespace Go.Proofs.YtiepipcankhdnaaGreatDoor
namespace Rows

/-- THE TIED CARD OF 'spoorlaw06.HostlogBack'. -/
def hostlogBackCard : Claim7 := { stood := { row := hostlogBackRow, standIns := [], harness := (true, "e9ef847bc802bc1cfd61bdf948eaab00f2ec52887a4ed96da2a16814fed8c11a"), looks := true }, kinds := [], alts := [], laidByText := true, laidKinds := [.data, .data, .data, .sentinel, .sentinel], laidTests := true, laidLooks := .later }
def HostlogBackCardSaid : Prop := Claim7.holds Tryz.pinned (.plain (OpenSpec.ofChange hostlogBackSpec)) hostlogBackCard

/-- THE TIED CARD OF 'spoorlaw06.HostlogNone'. -/
def hostlogNoneCard : Claim7 := { stood := { row := hostlogNoneRow, standIns := [], harness := (true, "e9ef847bc802bc1cfd61bdf948eaab00f2ec52887a4ed96da2a16814fed8c11a"), looks := true }, kinds := [], alts := [], laidByText := true, laidKinds := [.data, .data, .data, .sentinel, .sentinel], laidTests := true, laidLooks := .later }
def HostlogNoneCardSaid : Prop := Claim7.holds Tryz.pinned (.plain (OpenSpec.ofChange hostlogNoneSpec)) hostlogNoneCard

/-- THE TIED CARD OF 'spoorlaw06.HostlogRetain'. -/
def hostlogRetainCard : Claim7 := { stood := { row := hostlogRetainRow, standIns := [], harness := (true, "e9ef847bc802bc1cfd61bdf948eaab00f2ec52887a4ed96da2a16814fed8c11a"), looks := true }, kinds := [], alts := [], laidByText := true, laidKinds := [.data, .data, .data, .sentinel, .sentinel], laidTests := true, laidLooks := .later }
def HostlogRetainCardSaid : Prop := Claim7.holds Tryz.pinned (.plain (OpenSpec.ofChange hostlogRetainSpec)) hostlogRetainCard

/-- THE TIED CARD OF 'spoorlaw06.HostlogKeep'. -/
def hostlogKeepCard : Claim7 := { stood := { row := hostlogKeepRow, standIns := [], harness := (true, "e9ef847bc802bc1cfd61bdf948eaab00f2ec52887a4ed96da2a16814fed8c11a"), looks := true }, kinds := [], alts := [], laidByText := true, laidKinds := [.data, .data, .data, .sentinel, .sentinel], laidTests := true, laidLooks := .later }
def HostlogKeepCardSaid : Prop := Claim7.holds Tryz.pinned (.plain (OpenSpec.ofChange hostlogKeepSpec)) hostlogKeepCard

/-- THE TIED CARD OF 'spoorlaw06.HostlogTorn'. -/
def hostlogTornCard : Claim7 := { stood := { row := hostlogTornRow, standIns := [], harness := (true, "e9ef847bc802bc1cfd61bdf948eaab00f2ec52887a4ed96da2a16814fed8c11a"), looks := true }, kinds := [], alts := [], laidByText := true, laidKinds := [.data, .data, .data, .sentinel, .sentinel], laidTests := true, laidLooks := .later }
def HostlogTornCardSaid : Prop := Claim7.holds Tryz.pinned (.plain (OpenSpec.ofChange hostlogTornSpec)) hostlogTornCard

/-- THE TIED CARD OF 'spoorlaw06.HostlogPlays'. -/
def hostlogPlaysCard : Claim7 := { stood := { row := hostlogPlaysRow, standIns := [], harness := (true, "e9ef847bc802bc1cfd61bdf948eaab00f2ec52887a4ed96da2a16814fed8c11a"), looks := true }, kinds := [], alts := [], laidByText := true, laidKinds := [.data, .data, .data, .sentinel, .sentinel], laidTests := true, laidLooks := .later }
def HostlogPlaysCardSaid : Prop := Claim7.holds Tryz.pinned (.plain (OpenSpec.ofChange hostlogPlaysSpec)) hostlogPlaysCard

/-- THE TIED CARD OF 'spoorlaw06.HostlogTwice'. -/
def hostlogTwiceCard : Claim7 := { stood := { row := hostlogTwiceRow, standIns := [], harness := (true, "e9ef847bc802bc1cfd61bdf948eaab00f2ec52887a4ed96da2a16814fed8c11a"), looks := true }, kinds := [], alts := [], laidByText := true, laidKinds := [.data, .data, .data, .sentinel, .sentinel], laidTests := true, laidLooks := .later }
def HostlogTwiceCardSaid : Prop := Claim7.holds Tryz.pinned (.plain (OpenSpec.ofChange hostlogTwiceSpec)) hostlogTwiceCard

/-- THE SECOND FORM's CARD OF 'spoorlaw06.HostlogBack'. -/
def hostlogBackUptoCard : Claim7 := { stood := { row := hostlogBackUptoRow, standIns := [], harness := (true, "e9ef847bc802bc1cfd61bdf948eaab00f2ec52887a4ed96da2a16814fed8c11a"), looks := true }, kinds := [], alts := [], laidByText := true, laidKinds := [.data, .data, .data, .sentinel, .sentinel], laidTests := true, laidLooks := .later }
def HostlogBackUptoCardSaid : Prop := Claim7.holds Tryz.pinned (.plain (OpenSpec.upto hostlogBackSpec)) hostlogBackUptoCard

/-- THE SECOND FORM's CARD OF 'spoorlaw06.HostlogNone'. -/
def hostlogNoneUptoCard : Claim7 := { stood := { row := hostlogNoneUptoRow, standIns := [], harness := (true, "e9ef847bc802bc1cfd61bdf948eaab00f2ec52887a4ed96da2a16814fed8c11a"), looks := true }, kinds := [], alts := [], laidByText := true, laidKinds := [.data, .data, .data, .sentinel, .sentinel], laidTests := true, laidLooks := .later }
def HostlogNoneUptoCardSaid : Prop := Claim7.holds Tryz.pinned (.plain (OpenSpec.upto hostlogNoneSpec)) hostlogNoneUptoCard

/-- THE SECOND FORM's CARD OF 'spoorlaw06.HostlogRetain'. -/
def hostlogRetainUptoCard : Claim7 := { stood := { row := hostlogRetainUptoRow, standIns := [], harness := (true, "e9ef847bc802bc1cfd61bdf948eaab00f2ec52887a4ed96da2a16814fed8c11a"), looks := true }, kinds := [], alts := [], laidByText := true, laidKinds := [.data, .data, .data, .sentinel, .sentinel], laidTests := true, laidLooks := .later }
def HostlogRetainUptoCardSaid : Prop := Claim7.holds Tryz.pinned (.plain (OpenSpec.upto hostlogRetainSpec)) hostlogRetainUptoCard

/-- THE SECOND FORM's CARD OF 'spoorlaw06.HostlogKeep'. -/
def hostlogKeepUptoCard : Claim7 := { stood := { row := hostlogKeepUptoRow, standIns := [], harness := (true, "e9ef847bc802bc1cfd61bdf948eaab00f2ec52887a4ed96da2a16814fed8c11a"), looks := true }, kinds := [], alts := [], laidByText := true, laidKinds := [.data, .data, .data, .sentinel, .sentinel], laidTests := true, laidLooks := .later }
def HostlogKeepUptoCardSaid : Prop := Claim7.holds Tryz.pinned (.plain (OpenSpec.upto hostlogKeepSpec)) hostlogKeepUptoCard

/-- THE SECOND FORM's CARD OF 'spoorlaw06.HostlogTorn'. -/
def hostlogTornUptoCard : Claim7 := { stood := { row := hostlogTornUptoRow, standIns := [], harness := (true, "e9ef847bc802bc1cfd61bdf948eaab00f2ec52887a4ed96da2a16814fed8c11a"), looks := true }, kinds := [], alts := [], laidByText := true, laidKinds := [.data, .data, .data, .sentinel, .sentinel], laidTests := true, laidLooks := .later }
def HostlogTornUptoCardSaid : Prop := Claim7.holds Tryz.pinned (.plain (OpenSpec.upto hostlogTornSpec)) hostlogTornUptoCard

/-- THE SECOND FORM's CARD OF 'spoorlaw06.HostlogPlays'. -/
def hostlogPlaysUptoCard : Claim7 := { stood := { row := hostlogPlaysUptoRow, standIns := [], harness := (true, "e9ef847bc802bc1cfd61bdf948eaab00f2ec52887a4ed96da2a16814fed8c11a"), looks := true }, kinds := [], alts := [], laidByText := true, laidKinds := [.data, .data, .data, .sentinel, .sentinel], laidTests := true, laidLooks := .later }
def HostlogPlaysUptoCardSaid : Prop := Claim7.holds Tryz.pinned (.plain (OpenSpec.upto hostlogPlaysSpec)) hostlogPlaysUptoCard

/-- THE SECOND FORM's CARD OF 'spoorlaw06.HostlogTwice'. -/
def hostlogTwiceUptoCard : Claim7 := { stood := { row := hostlogTwiceUptoRow, standIns := [], harness := (true, "e9ef847bc802bc1cfd61bdf948eaab00f2ec52887a4ed96da2a16814fed8c11a"), looks := true }, kinds := [], alts := [], laidByText := true, laidKinds := [.data, .data, .data, .sentinel, .sentinel], laidTests := true, laidLooks := .later }
def HostlogTwiceUptoCardSaid : Prop := Claim7.holds Tryz.pinned (.plain (OpenSpec.upto hostlogTwiceSpec)) hostlogTwiceUptoCard
end Rows
end Go.Proofs.YtiepipcankhdnaaGreatDoor
