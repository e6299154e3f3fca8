/-
  DERIVED. GIVEN WITH THE SEED: THE CARDS: each row of YtmgoeipmgclbkaaGreatDoorRows.lean that lists a variable, with what it lists TIED to the program's text (the seventh form; the later family's looks); each row that meets fmt, with fmt's text TOLD by the authors' own Lean function (tested against real Go, not proved from fmt's source: count such statements apart). THE CARD IS WHAT COUNTS. Prove the row's statement (the work); the ties are given (YtmgoeipmgclbkaaGreatDoorTie.lean); close each card by the builder's one call (the guide's Derived/Test/ToyasCard.lean, 'card_holds'). Laid BY PROGRAM, IN A SANDBOX (cutbox-door.mjs). By AI agents, Wed Nov 11 2026. No macro, syntax, notation, axiom, sorry.
-/
import Derived.Test.YtmgoeipmgclbkaaGreatDoorRows
import GoSem.ClaimSeven
namespace Go.Proofs.YtmgoeipmgclbkaaGreatDoor
namespace Rows

/-- THE TIED CARD OF 'columbariumlaw06.SealBack'. -/
def sealBackCard : Claim7 := { stood := { row := sealBackRow, standIns := [], harness := (true, "eeb5e4186eeaf8dc149691c5e847f528924d9d65483de044d7f6566a71a4119a"), looks := true }, kinds := [], alts := [], laidByText := true, laidKinds := [.data], laidTests := true, laidLooks := .later }
def SealBackCardSaid : Prop := Claim7.holds Tryz.pinned (.plain (OpenSpec.ofChange sealBackSpec)) sealBackCard

/-- THE TIED CARD OF 'columbariumlaw06.SealTags'. -/
def sealTagsCard : Claim7 := { stood := { row := sealTagsRow, standIns := [], harness := (true, "eeb5e4186eeaf8dc149691c5e847f528924d9d65483de044d7f6566a71a4119a"), looks := true }, kinds := [], alts := [], laidByText := true, laidKinds := [.data], laidTests := true, laidLooks := .later }
def SealTagsCardSaid : Prop := Claim7.holds Tryz.pinned (.plain (OpenSpec.ofChange sealTagsSpec)) sealTagsCard

/-- THE TIED CARD OF 'columbariumlaw06.SealStreams'. -/
def sealStreamsCard : Claim7 := { stood := { row := sealStreamsRow, standIns := [], harness := (true, "eeb5e4186eeaf8dc149691c5e847f528924d9d65483de044d7f6566a71a4119a"), looks := true }, kinds := [], alts := [], laidByText := true, laidKinds := [.data], laidTests := true, laidLooks := .later }
def SealStreamsCardSaid : Prop := Claim7.holds Tryz.pinned (.plain (OpenSpec.ofChange sealStreamsSpec)) sealStreamsCard

/-- THE TIED CARD OF 'columbariumlaw06.SealApart'. -/
def sealApartCard : Claim7 := { stood := { row := sealApartRow, standIns := [], harness := (true, "eeb5e4186eeaf8dc149691c5e847f528924d9d65483de044d7f6566a71a4119a"), looks := true }, kinds := [], alts := [], laidByText := true, laidKinds := [.data], laidTests := true, laidLooks := .later }
def SealApartCardSaid : Prop := Claim7.holds Tryz.pinned (.plain (OpenSpec.ofChange sealApartSpec)) sealApartCard

/-- THE SECOND FORM's CARD OF 'columbariumlaw06.SealBack'. -/
def sealBackUptoCard : Claim7 := { stood := { row := sealBackUptoRow, standIns := [], harness := (true, "eeb5e4186eeaf8dc149691c5e847f528924d9d65483de044d7f6566a71a4119a"), looks := true }, kinds := [], alts := [], laidByText := true, laidKinds := [.data], laidTests := true, laidLooks := .later }
def SealBackUptoCardSaid : Prop := Claim7.holds Tryz.pinned (.plain (OpenSpec.upto sealBackSpec)) sealBackUptoCard

/-- THE SECOND FORM's CARD OF 'columbariumlaw06.SealTags'. -/
def sealTagsUptoCard : Claim7 := { stood := { row := sealTagsUptoRow, standIns := [], harness := (true, "eeb5e4186eeaf8dc149691c5e847f528924d9d65483de044d7f6566a71a4119a"), looks := true }, kinds := [], alts := [], laidByText := true, laidKinds := [.data], laidTests := true, laidLooks := .later }
def SealTagsUptoCardSaid : Prop := Claim7.holds Tryz.pinned (.plain (OpenSpec.upto sealTagsSpec)) sealTagsUptoCard

/-- THE SECOND FORM's CARD OF 'columbariumlaw06.SealStreams'. -/
def sealStreamsUptoCard : Claim7 := { stood := { row := sealStreamsUptoRow, standIns := [], harness := (true, "eeb5e4186eeaf8dc149691c5e847f528924d9d65483de044d7f6566a71a4119a"), looks := true }, kinds := [], alts := [], laidByText := true, laidKinds := [.data], laidTests := true, laidLooks := .later }
def SealStreamsUptoCardSaid : Prop := Claim7.holds Tryz.pinned (.plain (OpenSpec.upto sealStreamsSpec)) sealStreamsUptoCard

/-- THE SECOND FORM's CARD OF 'columbariumlaw06.SealApart'. -/
def sealApartUptoCard : Claim7 := { stood := { row := sealApartUptoRow, standIns := [], harness := (true, "eeb5e4186eeaf8dc149691c5e847f528924d9d65483de044d7f6566a71a4119a"), looks := true }, kinds := [], alts := [], laidByText := true, laidKinds := [.data], laidTests := true, laidLooks := .later }
def SealApartUptoCardSaid : Prop := Claim7.holds Tryz.pinned (.plain (OpenSpec.upto sealApartSpec)) sealApartUptoCard
end Rows
end Go.Proofs.YtmgoeipmgclbkaaGreatDoor
