/-
  DERIVED. GIVEN WITH THE SEED: THE CARDS: each row of YtabnkmpkcfjkmaaGreatDoorRows.lean that lists a variable, with what it lists TIED to the program's text (the seventh form; the later family's looks); each row that meets fmt, with fmt's text TOLD by the authors' own Lean function (tested against real Go, not proved from fmt's source: count such statements apart). THE CARD IS WHAT COUNTS. Prove the row's statement (the work); the ties are given (YtabnkmpkcfjkmaaGreatDoorTie.lean); close each card by the builder's one call (the guide's Derived/Test/ToyasCard.lean, 'card_holds'). Laid BY PROGRAM, IN A SANDBOX (cutbox-door.mjs). By AI agents, Wed Nov 11 2026. No macro, syntax, notation, axiom, sorry.
-/
import Derived.Test.YtabnkmpkcfjkmaaGreatDoorRows
import GoSem.ClaimSeven
namespace Go.Proofs.YtabnkmpkcfjkmaaGreatDoor
namespace Rows

/-- THE TIED CARD OF 'tallymarklaw15.ChainWeighs'. -/
def chainWeighsCard : Claim7 := { stood := { row := chainWeighsRow, standIns := [], harness := (true, "ab29dc0f461c6c80f259790723fdca08be1a97dfd997b71709e67b58032dd83d"), looks := false }, kinds := [], alts := [], laidByText := true, laidKinds := [.data, .data, .data], laidTests := true, laidLooks := .later }
def ChainWeighsCardSaid : Prop := Claim7.holds Tryz.pinned (.plain (OpenSpec.ofChange chainWeighsSpec)) chainWeighsCard

/-- THE TIED CARD OF 'tallymarklaw23.PmfSteps'. -/
def pmfStepsCard : Claim7 := { stood := { row := pmfStepsRow, standIns := [], harness := (true, "ab29dc0f461c6c80f259790723fdca08be1a97dfd997b71709e67b58032dd83d"), looks := false }, kinds := [], alts := [], laidByText := true, laidKinds := [.data, .data, .data], laidTests := true, laidLooks := .later }
def PmfStepsCardSaid : Prop := Claim7.holds Tryz.pinned (.plain (OpenSpec.ofChange pmfStepsSpec)) pmfStepsCard

/-- THE TIED CARD OF 'tallymarklaw23.PmfTapes'. -/
def pmfTapesCard : Claim7 := { stood := { row := pmfTapesRow, standIns := [], harness := (true, "ab29dc0f461c6c80f259790723fdca08be1a97dfd997b71709e67b58032dd83d"), looks := false }, kinds := [], alts := [], laidByText := true, laidKinds := [.data, .data, .data], laidTests := true, laidLooks := .later }
def PmfTapesCardSaid : Prop := Claim7.holds Tryz.pinned (.plain (OpenSpec.ofChange pmfTapesSpec)) pmfTapesCard

/-- THE TIED CARD OF 'tallymarklaw23.PmfMerges'. -/
def pmfMergesCard : Claim7 := { stood := { row := pmfMergesRow, standIns := [], harness := (true, "ab29dc0f461c6c80f259790723fdca08be1a97dfd997b71709e67b58032dd83d"), looks := false }, kinds := [], alts := [], laidByText := true, laidKinds := [.data, .data, .data], laidTests := true, laidLooks := .later }
def PmfMergesCardSaid : Prop := Claim7.holds Tryz.pinned (.plain (OpenSpec.ofChange pmfMergesSpec)) pmfMergesCard

/-- THE SECOND FORM's CARD OF 'tallymarklaw15.ChainWeighs'. -/
def chainWeighsUptoCard : Claim7 := { stood := { row := chainWeighsUptoRow, standIns := [], harness := (true, "ab29dc0f461c6c80f259790723fdca08be1a97dfd997b71709e67b58032dd83d"), looks := false }, kinds := [], alts := [], laidByText := true, laidKinds := [.data, .data, .data], laidTests := true, laidLooks := .later }
def ChainWeighsUptoCardSaid : Prop := Claim7.holds Tryz.pinned (.plain (OpenSpec.upto chainWeighsSpec)) chainWeighsUptoCard

/-- THE SECOND FORM's CARD OF 'tallymarklaw23.PmfSteps'. -/
def pmfStepsUptoCard : Claim7 := { stood := { row := pmfStepsUptoRow, standIns := [], harness := (true, "ab29dc0f461c6c80f259790723fdca08be1a97dfd997b71709e67b58032dd83d"), looks := false }, kinds := [], alts := [], laidByText := true, laidKinds := [.data, .data, .data], laidTests := true, laidLooks := .later }
def PmfStepsUptoCardSaid : Prop := Claim7.holds Tryz.pinned (.plain (OpenSpec.upto pmfStepsSpec)) pmfStepsUptoCard

/-- THE SECOND FORM's CARD OF 'tallymarklaw23.PmfTapes'. -/
def pmfTapesUptoCard : Claim7 := { stood := { row := pmfTapesUptoRow, standIns := [], harness := (true, "ab29dc0f461c6c80f259790723fdca08be1a97dfd997b71709e67b58032dd83d"), looks := false }, kinds := [], alts := [], laidByText := true, laidKinds := [.data, .data, .data], laidTests := true, laidLooks := .later }
def PmfTapesUptoCardSaid : Prop := Claim7.holds Tryz.pinned (.plain (OpenSpec.upto pmfTapesSpec)) pmfTapesUptoCard

/-- THE SECOND FORM's CARD OF 'tallymarklaw23.PmfMerges'. -/
def pmfMergesUptoCard : Claim7 := { stood := { row := pmfMergesUptoRow, standIns := [], harness := (true, "ab29dc0f461c6c80f259790723fdca08be1a97dfd997b71709e67b58032dd83d"), looks := false }, kinds := [], alts := [], laidByText := true, laidKinds := [.data, .data, .data], laidTests := true, laidLooks := .later }
def PmfMergesUptoCardSaid : Prop := Claim7.holds Tryz.pinned (.plain (OpenSpec.upto pmfMergesSpec)) pmfMergesUptoCard
end Rows
end Go.Proofs.YtabnkmpkcfjkmaaGreatDoor
