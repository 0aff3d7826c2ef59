/-
  DERIVED. GIVEN WITH THE SEED: THE CARDS: each row of YtijbgbpjionfjaaGreatDoorRows.lean that lists a variable, with what it lists TIED to the program's text (the seventh form; the later family's looks); each row that meets fmt, with fmt's text TOLD by the authors' own Lean function (tested against real Go, not proved from fmt's source: count such statements apart). THE CARD IS WHAT COUNTS. Prove the row's statement (the work); the ties are given (YtijbgbpjionfjaaGreatDoorTie.lean); close each card by the builder's one call (the guide's Derived/Test/ToyasCard.lean, 'card_holds'). Laid BY PROGRAM, IN A SANDBOX (cutbox-door.mjs). By AI agents, Wed Nov 11 2026. No macro, syntax, notation, axiom, sorry.
-/
import Derived.Test.YtijbgbpjionfjaaGreatDoorRows
import GoSem.ClaimSeven
namespace Go.Proofs.YtijbgbpjionfjaaGreatDoor
namespace Rows

/-- THE TIED CARD OF 'tallymarklaw21.CmsOver'. -/
def cmsOverCard : Claim7 := { stood := { row := cmsOverRow, standIns := [], harness := (true, "7febfa64c23199b60969a6ca18625149ad587ae21899098edae496605843c0f1"), looks := false }, kinds := [], alts := [], laidByText := true, laidKinds := [.data, .data, .data], laidTests := true, laidLooks := .later }
def CmsOverCardSaid : Prop := Claim7.holds Tryz.pinned (.plain (OpenSpec.ofChange cmsOverSpec)) cmsOverCard

/-- THE TIED CARD OF 'tallymarklaw21.CmsQueries'. -/
def cmsQueriesCard : Claim7 := { stood := { row := cmsQueriesRow, standIns := [], harness := (true, "7febfa64c23199b60969a6ca18625149ad587ae21899098edae496605843c0f1"), looks := false }, kinds := [], alts := [], laidByText := true, laidKinds := [.data, .data, .data], laidTests := true, laidLooks := .later }
def CmsQueriesCardSaid : Prop := Claim7.holds Tryz.pinned (.plain (OpenSpec.ofChange cmsQueriesSpec)) cmsQueriesCard

/-- THE TIED CARD OF 'tallymarklaw21.CmsUpdates'. -/
def cmsUpdatesCard : Claim7 := { stood := { row := cmsUpdatesRow, standIns := [], harness := (true, "7febfa64c23199b60969a6ca18625149ad587ae21899098edae496605843c0f1"), looks := false }, kinds := [], alts := [], laidByText := true, laidKinds := [.data, .data, .data], laidTests := true, laidLooks := .later }
def CmsUpdatesCardSaid : Prop := Claim7.holds Tryz.pinned (.plain (OpenSpec.ofChange cmsUpdatesSpec)) cmsUpdatesCard

/-- THE TIED CARD OF 'tallymarklaw21.CmsBegins'. -/
def cmsBeginsCard : Claim7 := { stood := { row := cmsBeginsRow, standIns := [], harness := (true, "7febfa64c23199b60969a6ca18625149ad587ae21899098edae496605843c0f1"), looks := false }, kinds := [], alts := [], laidByText := true, laidKinds := [.data, .data, .data], laidTests := true, laidLooks := .later }
def CmsBeginsCardSaid : Prop := Claim7.holds Tryz.pinned (.plain (OpenSpec.ofChange cmsBeginsSpec)) cmsBeginsCard

/-- THE TIED CARD OF 'tallymarklaw21.CmsWrites'. -/
def cmsWritesCard : Claim7 := { stood := { row := cmsWritesRow, standIns := [], harness := (true, "7febfa64c23199b60969a6ca18625149ad587ae21899098edae496605843c0f1"), looks := false }, kinds := [], alts := [], laidByText := true, laidKinds := [.data, .data, .data], laidTests := true, laidLooks := .later }
def CmsWritesCardSaid : Prop := Claim7.holds Tryz.pinned (.plain (OpenSpec.ofChange cmsWritesSpec)) cmsWritesCard

/-- THE TIED CARD OF 'tallymarklaw21.CmsMerges'. -/
def cmsMergesCard : Claim7 := { stood := { row := cmsMergesRow, standIns := [], harness := (true, "7febfa64c23199b60969a6ca18625149ad587ae21899098edae496605843c0f1"), looks := false }, kinds := [], alts := [], laidByText := true, laidKinds := [.data, .data, .data], laidTests := true, laidLooks := .later }
def CmsMergesCardSaid : Prop := Claim7.holds Tryz.pinned (.plain (OpenSpec.ofChange cmsMergesSpec)) cmsMergesCard

/-- THE SECOND FORM's CARD OF 'tallymarklaw21.CmsOver'. -/
def cmsOverUptoCard : Claim7 := { stood := { row := cmsOverUptoRow, standIns := [], harness := (true, "7febfa64c23199b60969a6ca18625149ad587ae21899098edae496605843c0f1"), looks := false }, kinds := [], alts := [], laidByText := true, laidKinds := [.data, .data, .data], laidTests := true, laidLooks := .later }
def CmsOverUptoCardSaid : Prop := Claim7.holds Tryz.pinned (.plain (OpenSpec.upto cmsOverSpec)) cmsOverUptoCard

/-- THE SECOND FORM's CARD OF 'tallymarklaw21.CmsQueries'. -/
def cmsQueriesUptoCard : Claim7 := { stood := { row := cmsQueriesUptoRow, standIns := [], harness := (true, "7febfa64c23199b60969a6ca18625149ad587ae21899098edae496605843c0f1"), looks := false }, kinds := [], alts := [], laidByText := true, laidKinds := [.data, .data, .data], laidTests := true, laidLooks := .later }
def CmsQueriesUptoCardSaid : Prop := Claim7.holds Tryz.pinned (.plain (OpenSpec.upto cmsQueriesSpec)) cmsQueriesUptoCard

/-- THE SECOND FORM's CARD OF 'tallymarklaw21.CmsUpdates'. -/
def cmsUpdatesUptoCard : Claim7 := { stood := { row := cmsUpdatesUptoRow, standIns := [], harness := (true, "7febfa64c23199b60969a6ca18625149ad587ae21899098edae496605843c0f1"), looks := false }, kinds := [], alts := [], laidByText := true, laidKinds := [.data, .data, .data], laidTests := true, laidLooks := .later }
def CmsUpdatesUptoCardSaid : Prop := Claim7.holds Tryz.pinned (.plain (OpenSpec.upto cmsUpdatesSpec)) cmsUpdatesUptoCard

/-- THE SECOND FORM's CARD OF 'tallymarklaw21.CmsBegins'. -/
def cmsBeginsUptoCard : Claim7 := { stood := { row := cmsBeginsUptoRow, standIns := [], harness := (true, "7febfa64c23199b60969a6ca18625149ad587ae21899098edae496605843c0f1"), looks := false }, kinds := [], alts := [], laidByText := true, laidKinds := [.data, .data, .data], laidTests := true, laidLooks := .later }
def CmsBeginsUptoCardSaid : Prop := Claim7.holds Tryz.pinned (.plain (OpenSpec.upto cmsBeginsSpec)) cmsBeginsUptoCard

/-- THE SECOND FORM's CARD OF 'tallymarklaw21.CmsWrites'. -/
def cmsWritesUptoCard : Claim7 := { stood := { row := cmsWritesUptoRow, standIns := [], harness := (true, "7febfa64c23199b60969a6ca18625149ad587ae21899098edae496605843c0f1"), looks := false }, kinds := [], alts := [], laidByText := true, laidKinds := [.data, .data, .data], laidTests := true, laidLooks := .later }
def CmsWritesUptoCardSaid : Prop := Claim7.holds Tryz.pinned (.plain (OpenSpec.upto cmsWritesSpec)) cmsWritesUptoCard

/-- THE SECOND FORM's CARD OF 'tallymarklaw21.CmsMerges'. -/
def cmsMergesUptoCard : Claim7 := { stood := { row := cmsMergesUptoRow, standIns := [], harness := (true, "7febfa64c23199b60969a6ca18625149ad587ae21899098edae496605843c0f1"), looks := false }, kinds := [], alts := [], laidByText := true, laidKinds := [.data, .data, .data], laidTests := true, laidLooks := .later }
def CmsMergesUptoCardSaid : Prop := Claim7.holds Tryz.pinned (.plain (OpenSpec.upto cmsMergesSpec)) cmsMergesUptoCard
end Rows
end Go.Proofs.YtijbgbpjionfjaaGreatDoor
