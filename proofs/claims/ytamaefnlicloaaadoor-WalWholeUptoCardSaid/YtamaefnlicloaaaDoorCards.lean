/-
  DERIVED. GIVEN WITH THE SEED: THE CARDS: each row of YtamaefnlicloaaaDoorRows.lean that lists a variable, with what it lists TIED to the program's text (the seventh form; the later family's looks); each row that meets fmt, with fmt's text TOLD by the authors' own Lean function (tested against real Go, not proved from fmt's source: count such statements apart). THE CARD IS WHAT COUNTS. Prove the row's statement (the work); the ties are given (YtamaefnlicloaaaDoorTie.lean); close each card by the builder's one call (the guide's Derived/Test/ToyasCard.lean, 'card_holds'). Laid BY PROGRAM, IN A SANDBOX (cutbox-door.mjs). By AI agents, Wed Nov 11 2026. No macro, syntax, notation, axiom, sorry.
-/
import Derived.Test.YtamaefnlicloaaaDoorRows
import GoSem.ClaimSeven
namespace Go.Proofs.YtamaefnlicloaaaDoor
namespace Rows

/-- THE TIED CARD OF 'ostiarylaw17.WalRecords'. -/
def walRecordsCard : Claim7 := { stood := { row := walRecordsRow, standIns := [], harness := (true, "cca8ff946ce46b78c8b34b01d96c07a1a1dc4cbccb0c2a96e79ed0bc8b2b7cdf"), looks := true }, kinds := [], alts := [], laidByText := true, laidKinds := [.data, .data, .data], laidTests := true, laidLooks := .later }
def WalRecordsCardSaid : Prop := Claim7.holds Tryd.pinned (.plain (OpenSpec.ofChange walRecordsSpec)) walRecordsCard

/-- THE TIED CARD OF 'ostiarylaw17.WalWhole'. -/
def walWholeCard : Claim7 := { stood := { row := walWholeRow, standIns := [], harness := (true, "cca8ff946ce46b78c8b34b01d96c07a1a1dc4cbccb0c2a96e79ed0bc8b2b7cdf"), looks := true }, kinds := [], alts := [], laidByText := true, laidKinds := [.data, .data, .data], laidTests := true, laidLooks := .later }
def WalWholeCardSaid : Prop := Claim7.holds Tryd.pinned (.plain (OpenSpec.ofChange walWholeSpec)) walWholeCard

/-- THE TIED CARD OF 'ostiarylaw17.WalApart'. -/
def walApartCard : Claim7 := { stood := { row := walApartRow, standIns := [], harness := (true, "cca8ff946ce46b78c8b34b01d96c07a1a1dc4cbccb0c2a96e79ed0bc8b2b7cdf"), looks := true }, kinds := [], alts := [], laidByText := true, laidKinds := [.data, .data, .data], laidTests := true, laidLooks := .later }
def WalApartCardSaid : Prop := Claim7.holds Tryd.pinned (.plain (OpenSpec.ofChange walApartSpec)) walApartCard

/-- THE TIED CARD OF 'ostiarylaw17.WalLives'. -/
def walLivesCard : Claim7 := { stood := { row := walLivesRow, standIns := [], harness := (true, "cca8ff946ce46b78c8b34b01d96c07a1a1dc4cbccb0c2a96e79ed0bc8b2b7cdf"), looks := true }, kinds := [], alts := [], laidByText := true, laidKinds := [.data, .data, .data], laidTests := true, laidLooks := .later }
def WalLivesCardSaid : Prop := Claim7.holds Tryd.pinned (.plain (OpenSpec.ofChange walLivesSpec)) walLivesCard

/-- THE TIED CARD OF 'ostiarylaw17.WalRooms'. -/
def walRoomsCard : Claim7 := { stood := { row := walRoomsRow, standIns := [], harness := (true, "cca8ff946ce46b78c8b34b01d96c07a1a1dc4cbccb0c2a96e79ed0bc8b2b7cdf"), looks := true }, kinds := [], alts := [], laidByText := true, laidKinds := [.data, .data, .data], laidTests := true, laidLooks := .later }
def WalRoomsCardSaid : Prop := Claim7.holds Tryd.pinned (.plain (OpenSpec.ofChange walRoomsSpec)) walRoomsCard

/-- THE SECOND FORM's CARD OF 'ostiarylaw17.WalRecords'. -/
def walRecordsUptoCard : Claim7 := { stood := { row := walRecordsUptoRow, standIns := [], harness := (true, "cca8ff946ce46b78c8b34b01d96c07a1a1dc4cbccb0c2a96e79ed0bc8b2b7cdf"), looks := true }, kinds := [], alts := [], laidByText := true, laidKinds := [.data, .data, .data], laidTests := true, laidLooks := .later }
def WalRecordsUptoCardSaid : Prop := Claim7.holds Tryd.pinned (.plain (OpenSpec.upto walRecordsSpec)) walRecordsUptoCard

/-- THE SECOND FORM's CARD OF 'ostiarylaw17.WalWhole'. -/
def walWholeUptoCard : Claim7 := { stood := { row := walWholeUptoRow, standIns := [], harness := (true, "cca8ff946ce46b78c8b34b01d96c07a1a1dc4cbccb0c2a96e79ed0bc8b2b7cdf"), looks := true }, kinds := [], alts := [], laidByText := true, laidKinds := [.data, .data, .data], laidTests := true, laidLooks := .later }
def WalWholeUptoCardSaid : Prop := Claim7.holds Tryd.pinned (.plain (OpenSpec.upto walWholeSpec)) walWholeUptoCard

/-- THE SECOND FORM's CARD OF 'ostiarylaw17.WalApart'. -/
def walApartUptoCard : Claim7 := { stood := { row := walApartUptoRow, standIns := [], harness := (true, "cca8ff946ce46b78c8b34b01d96c07a1a1dc4cbccb0c2a96e79ed0bc8b2b7cdf"), looks := true }, kinds := [], alts := [], laidByText := true, laidKinds := [.data, .data, .data], laidTests := true, laidLooks := .later }
def WalApartUptoCardSaid : Prop := Claim7.holds Tryd.pinned (.plain (OpenSpec.upto walApartSpec)) walApartUptoCard

/-- THE SECOND FORM's CARD OF 'ostiarylaw17.WalLives'. -/
def walLivesUptoCard : Claim7 := { stood := { row := walLivesUptoRow, standIns := [], harness := (true, "cca8ff946ce46b78c8b34b01d96c07a1a1dc4cbccb0c2a96e79ed0bc8b2b7cdf"), looks := true }, kinds := [], alts := [], laidByText := true, laidKinds := [.data, .data, .data], laidTests := true, laidLooks := .later }
def WalLivesUptoCardSaid : Prop := Claim7.holds Tryd.pinned (.plain (OpenSpec.upto walLivesSpec)) walLivesUptoCard

/-- THE SECOND FORM's CARD OF 'ostiarylaw17.WalRooms'. -/
def walRoomsUptoCard : Claim7 := { stood := { row := walRoomsUptoRow, standIns := [], harness := (true, "cca8ff946ce46b78c8b34b01d96c07a1a1dc4cbccb0c2a96e79ed0bc8b2b7cdf"), looks := true }, kinds := [], alts := [], laidByText := true, laidKinds := [.data, .data, .data], laidTests := true, laidLooks := .later }
def WalRoomsUptoCardSaid : Prop := Claim7.holds Tryd.pinned (.plain (OpenSpec.upto walRoomsSpec)) walRoomsUptoCard
end Rows
end Go.Proofs.YtamaefnlicloaaaDoor
