/-
  DERIVED. GIVEN WITH THE SEED: THE CARDS: each row of YtjbcbbfhcbnncaaGreatDoorRows.lean that lists a variable, with what it lists TIED to the program's text (the seventh form; the later family's looks); each row that meets fmt, with fmt's text TOLD by the authors' own Lean function (tested against real Go, not proved from fmt's source: count such statements apart). THE CARD IS WHAT COUNTS. Prove the row's statement (the work); the ties are given (YtjbcbbfhcbnncaaGreatDoorTie.lean); close each card by the builder's one call (the guide's Derived/Test/ToyasCard.lean, 'card_holds'). Laid BY PROGRAM, IN A SANDBOX (cutbox-door.mjs). By AI agents, Wed Nov 11 2026. No macro, syntax, notation, axiom, sorry.
-/
import Derived.Test.YtjbcbbfhcbnncaaGreatDoorRows
import GoSem.ClaimSeven
namespace Go.Proofs.YtjbcbbfhcbnncaaGreatDoor
namespace Rows

/-- THE TIED CARD OF 'tallymarklaw15.ChainWeighs'. -/
def chainWeighsCard : Claim7 := { stood := { row := chainWeighsRow, standIns := [], harness := (true, "dd163d4fc3d9bb13a994900178df409d26658ba990bd5b97583e6f1615e892a9"), looks := false }, kinds := [], alts := [], laidByText := true, laidKinds := [.data, .data, .data], laidTests := true, laidLooks := .later }
def ChainWeighsCardSaid : Prop := Claim7.holds Tryz.pinned (.plain (OpenSpec.ofChange chainWeighsSpec)) chainWeighsCard

/-- THE TIED CARD OF 'tallymarklaw23.PmfSteps'. -/
def pmfStepsCard : Claim7 := { stood := { row := pmfStepsRow, standIns := [], harness := (true, "dd163d4fc3d9bb13a994900178df409d26658ba990bd5b97583e6f1615e892a9"), looks := false }, kinds := [], alts := [], laidByText := true, laidKinds := [.data, .data, .data], laidTests := true, laidLooks := .later }
def PmfStepsCardSaid : Prop := Claim7.holds Tryz.pinned (.plain (OpenSpec.ofChange pmfStepsSpec)) pmfStepsCard

/-- THE TIED CARD OF 'tallymarklaw24.TailsVars'. -/
def tailsVarsCard : Claim7 := { stood := { row := tailsVarsRow, standIns := [], harness := (true, "dd163d4fc3d9bb13a994900178df409d26658ba990bd5b97583e6f1615e892a9"), looks := false }, kinds := [], alts := [], laidByText := true, laidKinds := [.data, .data, .data], laidTests := true, laidLooks := .later }
def TailsVarsCardSaid : Prop := Claim7.holds Tryz.pinned (.plain (OpenSpec.ofChange tailsVarsSpec)) tailsVarsCard

/-- THE TIED CARD OF 'tallymarklaw24.TailsFall'. -/
def tailsFallCard : Claim7 := { stood := { row := tailsFallRow, standIns := [], harness := (true, "dd163d4fc3d9bb13a994900178df409d26658ba990bd5b97583e6f1615e892a9"), looks := false }, kinds := [], alts := [], laidByText := true, laidKinds := [.data, .data, .data], laidTests := true, laidLooks := .later }
def TailsFallCardSaid : Prop := Claim7.holds Tryz.pinned (.plain (OpenSpec.ofChange tailsFallSpec)) tailsFallCard

/-- THE TIED CARD OF 'tallymarklaw23.PmfTapes'. -/
def pmfTapesCard : Claim7 := { stood := { row := pmfTapesRow, standIns := [], harness := (true, "dd163d4fc3d9bb13a994900178df409d26658ba990bd5b97583e6f1615e892a9"), looks := false }, kinds := [], alts := [], laidByText := true, laidKinds := [.data, .data, .data], laidTests := true, laidLooks := .later }
def PmfTapesCardSaid : Prop := Claim7.holds Tryz.pinned (.plain (OpenSpec.ofChange pmfTapesSpec)) pmfTapesCard

/-- THE TIED CARD OF 'tallymarklaw24.TailsMeans'. -/
def tailsMeansCard : Claim7 := { stood := { row := tailsMeansRow, standIns := [], harness := (true, "dd163d4fc3d9bb13a994900178df409d26658ba990bd5b97583e6f1615e892a9"), looks := false }, kinds := [], alts := [], laidByText := true, laidKinds := [.data, .data, .data], laidTests := true, laidLooks := .later }
def TailsMeansCardSaid : Prop := Claim7.holds Tryz.pinned (.plain (OpenSpec.ofChange tailsMeansSpec)) tailsMeansCard

/-- THE TIED CARD OF 'tallymarklaw23.PmfMerges'. -/
def pmfMergesCard : Claim7 := { stood := { row := pmfMergesRow, standIns := [], harness := (true, "dd163d4fc3d9bb13a994900178df409d26658ba990bd5b97583e6f1615e892a9"), looks := false }, kinds := [], alts := [], laidByText := true, laidKinds := [.data, .data, .data], laidTests := true, laidLooks := .later }
def PmfMergesCardSaid : Prop := Claim7.holds Tryz.pinned (.plain (OpenSpec.ofChange pmfMergesSpec)) pmfMergesCard

/-- THE TIED CARD OF 'tallymarktop.TallyMeans'. -/
def tallyMeansCard : Claim7 := { stood := { row := tallyMeansRow, standIns := [], harness := (true, "dd163d4fc3d9bb13a994900178df409d26658ba990bd5b97583e6f1615e892a9"), looks := false }, kinds := [], alts := [], laidByText := true, laidKinds := [.data, .data, .data], laidTests := true, laidLooks := .later }
def TallyMeansCardSaid : Prop := Claim7.holds Tryz.pinned (.plain (OpenSpec.ofChange tallyMeansSpec)) tallyMeansCard

/-- THE SECOND FORM's CARD OF 'tallymarklaw15.ChainWeighs'. -/
def chainWeighsUptoCard : Claim7 := { stood := { row := chainWeighsUptoRow, standIns := [], harness := (true, "dd163d4fc3d9bb13a994900178df409d26658ba990bd5b97583e6f1615e892a9"), looks := false }, kinds := [], alts := [], laidByText := true, laidKinds := [.data, .data, .data], laidTests := true, laidLooks := .later }
def ChainWeighsUptoCardSaid : Prop := Claim7.holds Tryz.pinned (.plain (OpenSpec.upto chainWeighsSpec)) chainWeighsUptoCard

/-- THE SECOND FORM's CARD OF 'tallymarklaw23.PmfSteps'. -/
def pmfStepsUptoCard : Claim7 := { stood := { row := pmfStepsUptoRow, standIns := [], harness := (true, "dd163d4fc3d9bb13a994900178df409d26658ba990bd5b97583e6f1615e892a9"), looks := false }, kinds := [], alts := [], laidByText := true, laidKinds := [.data, .data, .data], laidTests := true, laidLooks := .later }
def PmfStepsUptoCardSaid : Prop := Claim7.holds Tryz.pinned (.plain (OpenSpec.upto pmfStepsSpec)) pmfStepsUptoCard

/-- THE SECOND FORM's CARD OF 'tallymarklaw24.TailsVars'. -/
def tailsVarsUptoCard : Claim7 := { stood := { row := tailsVarsUptoRow, standIns := [], harness := (true, "dd163d4fc3d9bb13a994900178df409d26658ba990bd5b97583e6f1615e892a9"), looks := false }, kinds := [], alts := [], laidByText := true, laidKinds := [.data, .data, .data], laidTests := true, laidLooks := .later }
def TailsVarsUptoCardSaid : Prop := Claim7.holds Tryz.pinned (.plain (OpenSpec.upto tailsVarsSpec)) tailsVarsUptoCard

/-- THE SECOND FORM's CARD OF 'tallymarklaw24.TailsFall'. -/
def tailsFallUptoCard : Claim7 := { stood := { row := tailsFallUptoRow, standIns := [], harness := (true, "dd163d4fc3d9bb13a994900178df409d26658ba990bd5b97583e6f1615e892a9"), looks := false }, kinds := [], alts := [], laidByText := true, laidKinds := [.data, .data, .data], laidTests := true, laidLooks := .later }
def TailsFallUptoCardSaid : Prop := Claim7.holds Tryz.pinned (.plain (OpenSpec.upto tailsFallSpec)) tailsFallUptoCard

/-- THE SECOND FORM's CARD OF 'tallymarklaw23.PmfTapes'. -/
def pmfTapesUptoCard : Claim7 := { stood := { row := pmfTapesUptoRow, standIns := [], harness := (true, "dd163d4fc3d9bb13a994900178df409d26658ba990bd5b97583e6f1615e892a9"), looks := false }, kinds := [], alts := [], laidByText := true, laidKinds := [.data, .data, .data], laidTests := true, laidLooks := .later }
def PmfTapesUptoCardSaid : Prop := Claim7.holds Tryz.pinned (.plain (OpenSpec.upto pmfTapesSpec)) pmfTapesUptoCard

/-- THE SECOND FORM's CARD OF 'tallymarklaw24.TailsMeans'. -/
def tailsMeansUptoCard : Claim7 := { stood := { row := tailsMeansUptoRow, standIns := [], harness := (true, "dd163d4fc3d9bb13a994900178df409d26658ba990bd5b97583e6f1615e892a9"), looks := false }, kinds := [], alts := [], laidByText := true, laidKinds := [.data, .data, .data], laidTests := true, laidLooks := .later }
def TailsMeansUptoCardSaid : Prop := Claim7.holds Tryz.pinned (.plain (OpenSpec.upto tailsMeansSpec)) tailsMeansUptoCard

/-- THE SECOND FORM's CARD OF 'tallymarklaw23.PmfMerges'. -/
def pmfMergesUptoCard : Claim7 := { stood := { row := pmfMergesUptoRow, standIns := [], harness := (true, "dd163d4fc3d9bb13a994900178df409d26658ba990bd5b97583e6f1615e892a9"), looks := false }, kinds := [], alts := [], laidByText := true, laidKinds := [.data, .data, .data], laidTests := true, laidLooks := .later }
def PmfMergesUptoCardSaid : Prop := Claim7.holds Tryz.pinned (.plain (OpenSpec.upto pmfMergesSpec)) pmfMergesUptoCard

/-- THE SECOND FORM's CARD OF 'tallymarktop.TallyMeans'. -/
def tallyMeansUptoCard : Claim7 := { stood := { row := tallyMeansUptoRow, standIns := [], harness := (true, "dd163d4fc3d9bb13a994900178df409d26658ba990bd5b97583e6f1615e892a9"), looks := false }, kinds := [], alts := [], laidByText := true, laidKinds := [.data, .data, .data], laidTests := true, laidLooks := .later }
def TallyMeansUptoCardSaid : Prop := Claim7.holds Tryz.pinned (.plain (OpenSpec.upto tallyMeansSpec)) tallyMeansUptoCard
end Rows
end Go.Proofs.YtjbcbbfhcbnncaaGreatDoor
