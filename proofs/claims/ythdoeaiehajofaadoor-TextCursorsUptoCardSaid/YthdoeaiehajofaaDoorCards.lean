/-
  DERIVED. GIVEN WITH THE SEED: THE CARDS: each row of YthdoeaiehajofaaDoorRows.lean that lists a variable, with what it lists TIED to the program's text (the seventh form; the later family's looks); each row that meets fmt, with fmt's text TOLD by the authors' own Lean function (tested against real Go, not proved from fmt's source: count such statements apart). THE CARD IS WHAT COUNTS. Prove the row's statement (the work); the ties are given (YthdoeaiehajofaaDoorTie.lean); close each card by the builder's one call (the guide's Derived/Test/ToyasCard.lean, 'card_holds'). Laid BY PROGRAM, IN A SANDBOX (cutbox-door.mjs). By AI agents, Wed Nov 11 2026. No macro, syntax, notation, axiom, sorry.
-/
import Derived.Test.YthdoeaiehajofaaDoorRows
import GoSem.ClaimSeven
namespace Go.Proofs.YthdoeaiehajofaaDoor
namespace Rows

/-- THE TIED CARD OF 'ostiarylaw01.TextUtf'. -/
def textUtfCard : Claim7 := { stood := { row := textUtfRow, standIns := [], harness := (true, "89eb83734e86a7194090dfe57f3f2eb0e4d0c8b20b94159c7bb50bcf83bff0c0"), looks := true }, kinds := [], alts := [], laidByText := true, laidKinds := [.data, .data, .data, .handle], laidTests := true, laidLooks := .later }
def TextUtfCardSaid : Prop := Claim7.holds Tryd.pinned (.plain (OpenSpec.ofChange textUtfSpec)) textUtfCard

/-- THE TIED CARD OF 'ostiarylaw01.TextUnits'. -/
def textUnitsCard : Claim7 := { stood := { row := textUnitsRow, standIns := [], harness := (true, "89eb83734e86a7194090dfe57f3f2eb0e4d0c8b20b94159c7bb50bcf83bff0c0"), looks := true }, kinds := [], alts := [], laidByText := true, laidKinds := [.data, .data, .data, .handle], laidTests := true, laidLooks := .later }
def TextUnitsCardSaid : Prop := Claim7.holds Tryd.pinned (.plain (OpenSpec.ofChange textUnitsSpec)) textUnitsCard

/-- THE TIED CARD OF 'ostiarylaw01.TextSame'. -/
def textSameCard : Claim7 := { stood := { row := textSameRow, standIns := [], harness := (true, "89eb83734e86a7194090dfe57f3f2eb0e4d0c8b20b94159c7bb50bcf83bff0c0"), looks := true }, kinds := [], alts := [], laidByText := true, laidKinds := [.data, .data, .data, .handle], laidTests := true, laidLooks := .later }
def TextSameCardSaid : Prop := Claim7.holds Tryd.pinned (.plain (OpenSpec.ofChange textSameSpec)) textSameCard

/-- THE TIED CARD OF 'ostiarylaw01.TextWithin'. -/
def textWithinCard : Claim7 := { stood := { row := textWithinRow, standIns := [], harness := (true, "89eb83734e86a7194090dfe57f3f2eb0e4d0c8b20b94159c7bb50bcf83bff0c0"), looks := true }, kinds := [], alts := [], laidByText := true, laidKinds := [.data, .data, .data, .handle], laidTests := true, laidLooks := .later }
def TextWithinCardSaid : Prop := Claim7.holds Tryd.pinned (.plain (OpenSpec.ofChange textWithinSpec)) textWithinCard

/-- THE TIED CARD OF 'ostiarylaw01.TextCuts'. -/
def textCutsCard : Claim7 := { stood := { row := textCutsRow, standIns := [], harness := (true, "89eb83734e86a7194090dfe57f3f2eb0e4d0c8b20b94159c7bb50bcf83bff0c0"), looks := true }, kinds := [], alts := [], laidByText := true, laidKinds := [.data, .data, .data, .handle], laidTests := true, laidLooks := .later }
def TextCutsCardSaid : Prop := Claim7.holds Tryd.pinned (.plain (OpenSpec.ofChange textCutsSpec)) textCutsCard

/-- THE TIED CARD OF 'ostiarylaw01.TextParts'. -/
def textPartsCard : Claim7 := { stood := { row := textPartsRow, standIns := [], harness := (true, "89eb83734e86a7194090dfe57f3f2eb0e4d0c8b20b94159c7bb50bcf83bff0c0"), looks := true }, kinds := [], alts := [], laidByText := true, laidKinds := [.data, .data, .data, .handle], laidTests := true, laidLooks := .later }
def TextPartsCardSaid : Prop := Claim7.holds Tryd.pinned (.plain (OpenSpec.ofChange textPartsSpec)) textPartsCard

/-- THE TIED CARD OF 'ostiarylaw01.TextCursors'. -/
def textCursorsCard : Claim7 := { stood := { row := textCursorsRow, standIns := [], harness := (true, "89eb83734e86a7194090dfe57f3f2eb0e4d0c8b20b94159c7bb50bcf83bff0c0"), looks := true }, kinds := [], alts := [], laidByText := true, laidKinds := [.data, .data, .data, .handle], laidTests := true, laidLooks := .later }
def TextCursorsCardSaid : Prop := Claim7.holds Tryd.pinned (.plain (OpenSpec.ofChange textCursorsSpec)) textCursorsCard

/-- THE TIED CARD OF 'ostiarylaw01.TextCodes'. -/
def textCodesCard : Claim7 := { stood := { row := textCodesRow, standIns := [], harness := (true, "89eb83734e86a7194090dfe57f3f2eb0e4d0c8b20b94159c7bb50bcf83bff0c0"), looks := true }, kinds := [], alts := [], laidByText := true, laidKinds := [.data, .data, .data, .handle], laidTests := true, laidLooks := .later }
def TextCodesCardSaid : Prop := Claim7.holds Tryd.pinned (.plain (OpenSpec.ofChange textCodesSpec)) textCodesCard

/-- THE TIED CARD OF 'ostiarylaw01.TextBack'. -/
def textBackCard : Claim7 := { stood := { row := textBackRow, standIns := [], harness := (true, "89eb83734e86a7194090dfe57f3f2eb0e4d0c8b20b94159c7bb50bcf83bff0c0"), looks := true }, kinds := [], alts := [], laidByText := true, laidKinds := [.data, .data, .data, .handle], laidTests := true, laidLooks := .later }
def TextBackCardSaid : Prop := Claim7.holds Tryd.pinned (.plain (OpenSpec.ofChange textBackSpec)) textBackCard

/-- THE SECOND FORM's CARD OF 'ostiarylaw01.TextUtf'. -/
def textUtfUptoCard : Claim7 := { stood := { row := textUtfUptoRow, standIns := [], harness := (true, "89eb83734e86a7194090dfe57f3f2eb0e4d0c8b20b94159c7bb50bcf83bff0c0"), looks := true }, kinds := [], alts := [], laidByText := true, laidKinds := [.data, .data, .data, .handle], laidTests := true, laidLooks := .later }
def TextUtfUptoCardSaid : Prop := Claim7.holds Tryd.pinned (.plain (OpenSpec.upto textUtfSpec)) textUtfUptoCard

/-- THE SECOND FORM's CARD OF 'ostiarylaw01.TextUnits'. -/
def textUnitsUptoCard : Claim7 := { stood := { row := textUnitsUptoRow, standIns := [], harness := (true, "89eb83734e86a7194090dfe57f3f2eb0e4d0c8b20b94159c7bb50bcf83bff0c0"), looks := true }, kinds := [], alts := [], laidByText := true, laidKinds := [.data, .data, .data, .handle], laidTests := true, laidLooks := .later }
def TextUnitsUptoCardSaid : Prop := Claim7.holds Tryd.pinned (.plain (OpenSpec.upto textUnitsSpec)) textUnitsUptoCard

/-- THE SECOND FORM's CARD OF 'ostiarylaw01.TextSame'. -/
def textSameUptoCard : Claim7 := { stood := { row := textSameUptoRow, standIns := [], harness := (true, "89eb83734e86a7194090dfe57f3f2eb0e4d0c8b20b94159c7bb50bcf83bff0c0"), looks := true }, kinds := [], alts := [], laidByText := true, laidKinds := [.data, .data, .data, .handle], laidTests := true, laidLooks := .later }
def TextSameUptoCardSaid : Prop := Claim7.holds Tryd.pinned (.plain (OpenSpec.upto textSameSpec)) textSameUptoCard

/-- THE SECOND FORM's CARD OF 'ostiarylaw01.TextWithin'. -/
def textWithinUptoCard : Claim7 := { stood := { row := textWithinUptoRow, standIns := [], harness := (true, "89eb83734e86a7194090dfe57f3f2eb0e4d0c8b20b94159c7bb50bcf83bff0c0"), looks := true }, kinds := [], alts := [], laidByText := true, laidKinds := [.data, .data, .data, .handle], laidTests := true, laidLooks := .later }
def TextWithinUptoCardSaid : Prop := Claim7.holds Tryd.pinned (.plain (OpenSpec.upto textWithinSpec)) textWithinUptoCard

/-- THE SECOND FORM's CARD OF 'ostiarylaw01.TextCuts'. -/
def textCutsUptoCard : Claim7 := { stood := { row := textCutsUptoRow, standIns := [], harness := (true, "89eb83734e86a7194090dfe57f3f2eb0e4d0c8b20b94159c7bb50bcf83bff0c0"), looks := true }, kinds := [], alts := [], laidByText := true, laidKinds := [.data, .data, .data, .handle], laidTests := true, laidLooks := .later }
def TextCutsUptoCardSaid : Prop := Claim7.holds Tryd.pinned (.plain (OpenSpec.upto textCutsSpec)) textCutsUptoCard

/-- THE SECOND FORM's CARD OF 'ostiarylaw01.TextParts'. -/
def textPartsUptoCard : Claim7 := { stood := { row := textPartsUptoRow, standIns := [], harness := (true, "89eb83734e86a7194090dfe57f3f2eb0e4d0c8b20b94159c7bb50bcf83bff0c0"), looks := true }, kinds := [], alts := [], laidByText := true, laidKinds := [.data, .data, .data, .handle], laidTests := true, laidLooks := .later }
def TextPartsUptoCardSaid : Prop := Claim7.holds Tryd.pinned (.plain (OpenSpec.upto textPartsSpec)) textPartsUptoCard

/-- THE SECOND FORM's CARD OF 'ostiarylaw01.TextCursors'. -/
def textCursorsUptoCard : Claim7 := { stood := { row := textCursorsUptoRow, standIns := [], harness := (true, "89eb83734e86a7194090dfe57f3f2eb0e4d0c8b20b94159c7bb50bcf83bff0c0"), looks := true }, kinds := [], alts := [], laidByText := true, laidKinds := [.data, .data, .data, .handle], laidTests := true, laidLooks := .later }
def TextCursorsUptoCardSaid : Prop := Claim7.holds Tryd.pinned (.plain (OpenSpec.upto textCursorsSpec)) textCursorsUptoCard

/-- THE SECOND FORM's CARD OF 'ostiarylaw01.TextCodes'. -/
def textCodesUptoCard : Claim7 := { stood := { row := textCodesUptoRow, standIns := [], harness := (true, "89eb83734e86a7194090dfe57f3f2eb0e4d0c8b20b94159c7bb50bcf83bff0c0"), looks := true }, kinds := [], alts := [], laidByText := true, laidKinds := [.data, .data, .data, .handle], laidTests := true, laidLooks := .later }
def TextCodesUptoCardSaid : Prop := Claim7.holds Tryd.pinned (.plain (OpenSpec.upto textCodesSpec)) textCodesUptoCard

/-- THE SECOND FORM's CARD OF 'ostiarylaw01.TextBack'. -/
def textBackUptoCard : Claim7 := { stood := { row := textBackUptoRow, standIns := [], harness := (true, "89eb83734e86a7194090dfe57f3f2eb0e4d0c8b20b94159c7bb50bcf83bff0c0"), looks := true }, kinds := [], alts := [], laidByText := true, laidKinds := [.data, .data, .data, .handle], laidTests := true, laidLooks := .later }
def TextBackUptoCardSaid : Prop := Claim7.holds Tryd.pinned (.plain (OpenSpec.upto textBackSpec)) textBackUptoCard
end Rows
end Go.Proofs.YthdoeaiehajofaaDoor
