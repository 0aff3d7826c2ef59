/-
  DERIVED. GIVEN WITH THE SEED: THE CARDS: each row of YtdklbnemfelpnaaGreatDoorRows.lean that lists a variable, with what it lists TIED to the program's text (the seventh form; the later family's looks); each row that meets fmt, with fmt's text TOLD by the authors' own Lean function (tested against real Go, not proved from fmt's source: count such statements apart). THE CARD IS WHAT COUNTS. Prove the row's statement (the work); the ties are given (YtdklbnemfelpnaaGreatDoorTie.lean); close each card by the builder's one call (the guide's Derived/Test/ToyasCard.lean, 'card_holds'). Laid BY PROGRAM, IN A SANDBOX (cutbox-door.mjs). By AI agents, Wed Nov 11 2026. No macro, syntax, notation, axiom, sorry.
-/
import Derived.Test.YtdklbnemfelpnaaGreatDoorRows
import GoSem.ClaimSeven
namespace Go.Proofs.YtdklbnemfelpnaaGreatDoor
namespace Rows

/-- THE TIED CARD OF 'tallymarklaw12.MorrisTells'. -/
def morrisTellsCard : Claim7 := { stood := { row := morrisTellsRow, standIns := [], harness := (true, "0d71e109153a8b879f90a76194c7907d2efd14c8f04f2f0bf1c05a08804484e0"), looks := false }, kinds := [], alts := [], laidByText := true, laidKinds := [.data, .data, .data], laidTests := true, laidLooks := .later }
def MorrisTellsCardSaid : Prop := Claim7.holds Tryz.pinned (.plain (OpenSpec.ofChange morrisTellsSpec)) morrisTellsCard

/-- THE TIED CARD OF 'tallymarklaw15.ChainWeighs'. -/
def chainWeighsCard : Claim7 := { stood := { row := chainWeighsRow, standIns := [], harness := (true, "0d71e109153a8b879f90a76194c7907d2efd14c8f04f2f0bf1c05a08804484e0"), looks := false }, kinds := [], alts := [], laidByText := true, laidKinds := [.data, .data, .data], laidTests := true, laidLooks := .later }
def ChainWeighsCardSaid : Prop := Claim7.holds Tryz.pinned (.plain (OpenSpec.ofChange chainWeighsSpec)) chainWeighsCard

/-- THE TIED CARD OF 'tallymarklaw21.CmsWrites'. -/
def cmsWritesCard : Claim7 := { stood := { row := cmsWritesRow, standIns := [], harness := (true, "0d71e109153a8b879f90a76194c7907d2efd14c8f04f2f0bf1c05a08804484e0"), looks := false }, kinds := [], alts := [], laidByText := true, laidKinds := [.data, .data, .data], laidTests := true, laidLooks := .later }
def CmsWritesCardSaid : Prop := Claim7.holds Tryz.pinned (.plain (OpenSpec.ofChange cmsWritesSpec)) cmsWritesCard

/-- THE SECOND FORM's CARD OF 'tallymarklaw12.MorrisTells'. -/
def morrisTellsUptoCard : Claim7 := { stood := { row := morrisTellsUptoRow, standIns := [], harness := (true, "0d71e109153a8b879f90a76194c7907d2efd14c8f04f2f0bf1c05a08804484e0"), looks := false }, kinds := [], alts := [], laidByText := true, laidKinds := [.data, .data, .data], laidTests := true, laidLooks := .later }
def MorrisTellsUptoCardSaid : Prop := Claim7.holds Tryz.pinned (.plain (OpenSpec.upto morrisTellsSpec)) morrisTellsUptoCard

/-- THE SECOND FORM's CARD OF 'tallymarklaw15.ChainWeighs'. -/
def chainWeighsUptoCard : Claim7 := { stood := { row := chainWeighsUptoRow, standIns := [], harness := (true, "0d71e109153a8b879f90a76194c7907d2efd14c8f04f2f0bf1c05a08804484e0"), looks := false }, kinds := [], alts := [], laidByText := true, laidKinds := [.data, .data, .data], laidTests := true, laidLooks := .later }
def ChainWeighsUptoCardSaid : Prop := Claim7.holds Tryz.pinned (.plain (OpenSpec.upto chainWeighsSpec)) chainWeighsUptoCard

/-- THE SECOND FORM's CARD OF 'tallymarklaw21.CmsWrites'. -/
def cmsWritesUptoCard : Claim7 := { stood := { row := cmsWritesUptoRow, standIns := [], harness := (true, "0d71e109153a8b879f90a76194c7907d2efd14c8f04f2f0bf1c05a08804484e0"), looks := false }, kinds := [], alts := [], laidByText := true, laidKinds := [.data, .data, .data], laidTests := true, laidLooks := .later }
def CmsWritesUptoCardSaid : Prop := Claim7.holds Tryz.pinned (.plain (OpenSpec.upto cmsWritesSpec)) cmsWritesUptoCard
end Rows
end Go.Proofs.YtdklbnemfelpnaaGreatDoor
