/-
  DERIVED. GIVEN WITH THE SEED: THE CARDS: each row of YtilpbjcbffbjeaaDoorRows.lean that lists a variable, with what it lists TIED to the program's text (the seventh form; the later family's looks); each row that meets fmt, with fmt's text TOLD by the authors' own Lean function (tested against real Go, not proved from fmt's source: count such statements apart). THE CARD IS WHAT COUNTS. Prove the row's statement (the work); the ties are given (YtilpbjcbffbjeaaDoorTie.lean); close each card by the builder's one call (the guide's Derived/Test/ToyasCard.lean, 'card_holds'). Laid BY PROGRAM, IN A SANDBOX (cutbox-door.mjs). By AI agents, Wed Nov 11 2026. No macro, syntax, notation, axiom, sorry.
-/
import Derived.Test.YtilpbjcbffbjeaaDoorRows
import GoSem.ClaimSeven
namespace Go.Proofs.YtilpbjcbffbjeaaDoor
namespace Rows

/-- THE TIED CARD OF 'ostiarylaw19.AuditChains'. -/
def auditChainsCard : Claim7 := { stood := { row := auditChainsRow, standIns := [], harness := (true, "ed4cc3678e1dcc71c2d1c5c686ff7e3d4288a77155fb3afde15aa18d5e2d74bc"), looks := true }, kinds := [], alts := [], laidByText := true, laidKinds := [.handle], laidTests := true, laidLooks := .later }
def AuditChainsCardSaid : Prop := Claim7.holds Tryd.pinned (.plain (OpenSpec.ofChange auditChainsSpec)) auditChainsCard

/-- THE TIED CARD OF 'ostiarylaw19.AuditJoins'. -/
def auditJoinsCard : Claim7 := { stood := { row := auditJoinsRow, standIns := [], harness := (true, "ed4cc3678e1dcc71c2d1c5c686ff7e3d4288a77155fb3afde15aa18d5e2d74bc"), looks := true }, kinds := [], alts := [], laidByText := true, laidKinds := [.handle], laidTests := true, laidLooks := .later }
def AuditJoinsCardSaid : Prop := Claim7.holds Tryd.pinned (.plain (OpenSpec.ofChange auditJoinsSpec)) auditJoinsCard

/-- THE TIED CARD OF 'ostiarylaw17.WalLives'. -/
def walLivesCard : Claim7 := { stood := { row := walLivesRow, standIns := [], harness := (true, "ed4cc3678e1dcc71c2d1c5c686ff7e3d4288a77155fb3afde15aa18d5e2d74bc"), looks := true }, kinds := [], alts := [], laidByText := true, laidKinds := [.data, .data, .data], laidTests := true, laidLooks := .later }
def WalLivesCardSaid : Prop := Claim7.holds Tryd.pinned (.plain (OpenSpec.ofChange walLivesSpec)) walLivesCard

/-- THE SECOND FORM's CARD OF 'ostiarylaw19.AuditChains'. -/
def auditChainsUptoCard : Claim7 := { stood := { row := auditChainsUptoRow, standIns := [], harness := (true, "ed4cc3678e1dcc71c2d1c5c686ff7e3d4288a77155fb3afde15aa18d5e2d74bc"), looks := true }, kinds := [], alts := [], laidByText := true, laidKinds := [.handle], laidTests := true, laidLooks := .later }
def AuditChainsUptoCardSaid : Prop := Claim7.holds Tryd.pinned (.plain (OpenSpec.upto auditChainsSpec)) auditChainsUptoCard

/-- THE SECOND FORM's CARD OF 'ostiarylaw19.AuditJoins'. -/
def auditJoinsUptoCard : Claim7 := { stood := { row := auditJoinsUptoRow, standIns := [], harness := (true, "ed4cc3678e1dcc71c2d1c5c686ff7e3d4288a77155fb3afde15aa18d5e2d74bc"), looks := true }, kinds := [], alts := [], laidByText := true, laidKinds := [.handle], laidTests := true, laidLooks := .later }
def AuditJoinsUptoCardSaid : Prop := Claim7.holds Tryd.pinned (.plain (OpenSpec.upto auditJoinsSpec)) auditJoinsUptoCard

/-- THE SECOND FORM's CARD OF 'ostiarylaw17.WalLives'. -/
def walLivesUptoCard : Claim7 := { stood := { row := walLivesUptoRow, standIns := [], harness := (true, "ed4cc3678e1dcc71c2d1c5c686ff7e3d4288a77155fb3afde15aa18d5e2d74bc"), looks := true }, kinds := [], alts := [], laidByText := true, laidKinds := [.data, .data, .data], laidTests := true, laidLooks := .later }
def WalLivesUptoCardSaid : Prop := Claim7.holds Tryd.pinned (.plain (OpenSpec.upto walLivesSpec)) walLivesUptoCard
end Rows
end Go.Proofs.YtilpbjcbffbjeaaDoor
