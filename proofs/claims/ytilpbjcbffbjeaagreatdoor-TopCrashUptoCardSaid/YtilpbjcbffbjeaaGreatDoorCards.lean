/-
  DERIVED. GIVEN WITH THE SEED: THE CARDS: each row of YtilpbjcbffbjeaaGreatDoorRows.lean that lists a variable, with what it lists TIED to the program's text (the seventh form; the later family's looks); each row that meets fmt, with fmt's text TOLD by the authors' own Lean function (tested against real Go, not proved from fmt's source: count such statements apart). THE CARD IS WHAT COUNTS. Prove the row's statement (the work); the ties are given (YtilpbjcbffbjeaaGreatDoorTie.lean); close each card by the builder's one call (the guide's Derived/Test/ToyasCard.lean, 'card_holds'). Laid BY PROGRAM, IN A SANDBOX (cutbox-door.mjs). By AI agents, Wed Nov 11 2026. No macro, syntax, notation, axiom, sorry.
-/
import Derived.Test.YtilpbjcbffbjeaaGreatDoorRows
import GoSem.ClaimSeven
namespace Go.Proofs.YtilpbjcbffbjeaaGreatDoor
namespace Rows

/-- THE TIED CARD OF 'ostiarytop.TopCrash'. -/
def topCrashCard : Claim7 := { stood := { row := topCrashRow, standIns := [], harness := (true, "20fc27bcb194ba7cbb939d37bc6ac50596f22a328acd64f8f6279a74b95d708d"), looks := true }, kinds := [], alts := [], laidByText := true, laidKinds := [.data, .data, .data, .handle], laidTests := true, laidLooks := .later }
def TopCrashCardSaid : Prop := Claim7.holds Tryz.pinned (.plain (OpenSpec.ofChange topCrashSpec)) topCrashCard

/-- THE TIED CARD OF 'ostiarylaw19.AuditReads'. -/
def auditReadsCard : Claim7 := { stood := { row := auditReadsRow, standIns := [], harness := (true, "20fc27bcb194ba7cbb939d37bc6ac50596f22a328acd64f8f6279a74b95d708d"), looks := true }, kinds := [], alts := [], laidByText := true, laidKinds := [.handle], laidTests := true, laidLooks := .later }
def AuditReadsCardSaid : Prop := Claim7.holds Tryz.pinned (.plain (OpenSpec.ofChange auditReadsSpec)) auditReadsCard

/-- THE TIED CARD OF 'ostiarylaw19.AuditLives'. -/
def auditLivesCard : Claim7 := { stood := { row := auditLivesRow, standIns := [], harness := (true, "20fc27bcb194ba7cbb939d37bc6ac50596f22a328acd64f8f6279a74b95d708d"), looks := true }, kinds := [], alts := [], laidByText := true, laidKinds := [.handle], laidTests := true, laidLooks := .later }
def AuditLivesCardSaid : Prop := Claim7.holds Tryz.pinned (.plain (OpenSpec.ofChange auditLivesSpec)) auditLivesCard

/-- THE TIED CARD OF 'ostiarylaw17.WalOpens'. -/
def walOpensCard : Claim7 := { stood := { row := walOpensRow, standIns := [], harness := (true, "20fc27bcb194ba7cbb939d37bc6ac50596f22a328acd64f8f6279a74b95d708d"), looks := true }, kinds := [], alts := [], laidByText := true, laidKinds := [.data, .data, .data], laidTests := true, laidLooks := .later }
def WalOpensCardSaid : Prop := Claim7.holds Tryz.pinned (.plain (OpenSpec.ofChange walOpensSpec)) walOpensCard

/-- THE TIED CARD OF 'ostiarylaw18.StoreApart'. -/
def storeApartCard : Claim7 := { stood := { row := storeApartRow, standIns := [], harness := (true, "20fc27bcb194ba7cbb939d37bc6ac50596f22a328acd64f8f6279a74b95d708d"), looks := true }, kinds := [], alts := [], laidByText := true, laidKinds := [.data, .data, .data, .handle], laidTests := true, laidLooks := .later }
def StoreApartCardSaid : Prop := Claim7.holds Tryz.pinned (.plain (OpenSpec.ofChange storeApartSpec)) storeApartCard

/-- THE TIED CARD OF 'ostiarylaw18.StoreTells'. -/
def storeTellsCard : Claim7 := { stood := { row := storeTellsRow, standIns := [], harness := (true, "20fc27bcb194ba7cbb939d37bc6ac50596f22a328acd64f8f6279a74b95d708d"), looks := true }, kinds := [], alts := [], laidByText := true, laidKinds := [.data, .data, .data, .handle], laidTests := true, laidLooks := .later }
def StoreTellsCardSaid : Prop := Claim7.holds Tryz.pinned (.plain (OpenSpec.ofChange storeTellsSpec)) storeTellsCard

/-- THE TIED CARD OF 'ostiarylaw18.StoreLives'. -/
def storeLivesCard : Claim7 := { stood := { row := storeLivesRow, standIns := [], harness := (true, "20fc27bcb194ba7cbb939d37bc6ac50596f22a328acd64f8f6279a74b95d708d"), looks := true }, kinds := [], alts := [], laidByText := true, laidKinds := [.data, .data, .data, .handle], laidTests := true, laidLooks := .later }
def StoreLivesCardSaid : Prop := Claim7.holds Tryz.pinned (.plain (OpenSpec.ofChange storeLivesSpec)) storeLivesCard

/-- THE SECOND FORM's CARD OF 'ostiarytop.TopCrash'. -/
def topCrashUptoCard : Claim7 := { stood := { row := topCrashUptoRow, standIns := [], harness := (true, "20fc27bcb194ba7cbb939d37bc6ac50596f22a328acd64f8f6279a74b95d708d"), looks := true }, kinds := [], alts := [], laidByText := true, laidKinds := [.data, .data, .data, .handle], laidTests := true, laidLooks := .later }
def TopCrashUptoCardSaid : Prop := Claim7.holds Tryz.pinned (.plain (OpenSpec.upto topCrashSpec)) topCrashUptoCard

/-- THE SECOND FORM's CARD OF 'ostiarylaw19.AuditReads'. -/
def auditReadsUptoCard : Claim7 := { stood := { row := auditReadsUptoRow, standIns := [], harness := (true, "20fc27bcb194ba7cbb939d37bc6ac50596f22a328acd64f8f6279a74b95d708d"), looks := true }, kinds := [], alts := [], laidByText := true, laidKinds := [.handle], laidTests := true, laidLooks := .later }
def AuditReadsUptoCardSaid : Prop := Claim7.holds Tryz.pinned (.plain (OpenSpec.upto auditReadsSpec)) auditReadsUptoCard

/-- THE SECOND FORM's CARD OF 'ostiarylaw19.AuditLives'. -/
def auditLivesUptoCard : Claim7 := { stood := { row := auditLivesUptoRow, standIns := [], harness := (true, "20fc27bcb194ba7cbb939d37bc6ac50596f22a328acd64f8f6279a74b95d708d"), looks := true }, kinds := [], alts := [], laidByText := true, laidKinds := [.handle], laidTests := true, laidLooks := .later }
def AuditLivesUptoCardSaid : Prop := Claim7.holds Tryz.pinned (.plain (OpenSpec.upto auditLivesSpec)) auditLivesUptoCard

/-- THE SECOND FORM's CARD OF 'ostiarylaw17.WalOpens'. -/
def walOpensUptoCard : Claim7 := { stood := { row := walOpensUptoRow, standIns := [], harness := (true, "20fc27bcb194ba7cbb939d37bc6ac50596f22a328acd64f8f6279a74b95d708d"), looks := true }, kinds := [], alts := [], laidByText := true, laidKinds := [.data, .data, .data], laidTests := true, laidLooks := .later }
def WalOpensUptoCardSaid : Prop := Claim7.holds Tryz.pinned (.plain (OpenSpec.upto walOpensSpec)) walOpensUptoCard

/-- THE SECOND FORM's CARD OF 'ostiarylaw18.StoreApart'. -/
def storeApartUptoCard : Claim7 := { stood := { row := storeApartUptoRow, standIns := [], harness := (true, "20fc27bcb194ba7cbb939d37bc6ac50596f22a328acd64f8f6279a74b95d708d"), looks := true }, kinds := [], alts := [], laidByText := true, laidKinds := [.data, .data, .data, .handle], laidTests := true, laidLooks := .later }
def StoreApartUptoCardSaid : Prop := Claim7.holds Tryz.pinned (.plain (OpenSpec.upto storeApartSpec)) storeApartUptoCard

/-- THE SECOND FORM's CARD OF 'ostiarylaw18.StoreTells'. -/
def storeTellsUptoCard : Claim7 := { stood := { row := storeTellsUptoRow, standIns := [], harness := (true, "20fc27bcb194ba7cbb939d37bc6ac50596f22a328acd64f8f6279a74b95d708d"), looks := true }, kinds := [], alts := [], laidByText := true, laidKinds := [.data, .data, .data, .handle], laidTests := true, laidLooks := .later }
def StoreTellsUptoCardSaid : Prop := Claim7.holds Tryz.pinned (.plain (OpenSpec.upto storeTellsSpec)) storeTellsUptoCard

/-- THE SECOND FORM's CARD OF 'ostiarylaw18.StoreLives'. -/
def storeLivesUptoCard : Claim7 := { stood := { row := storeLivesUptoRow, standIns := [], harness := (true, "20fc27bcb194ba7cbb939d37bc6ac50596f22a328acd64f8f6279a74b95d708d"), looks := true }, kinds := [], alts := [], laidByText := true, laidKinds := [.data, .data, .data, .handle], laidTests := true, laidLooks := .later }
def StoreLivesUptoCardSaid : Prop := Claim7.holds Tryz.pinned (.plain (OpenSpec.upto storeLivesSpec)) storeLivesUptoCard
end Rows
end Go.Proofs.YtilpbjcbffbjeaaGreatDoor
