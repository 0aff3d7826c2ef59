/-
  DERIVED. GIVEN WITH THE SEED: THE CARDS: each row of YtidfejfgmlakpaaGreatDoorRows.lean that lists a variable, with what it lists TIED to the program's text (the seventh form; the later family's looks); each row that meets fmt, with fmt's text TOLD by the authors' own Lean function (tested against real Go, not proved from fmt's source: count such statements apart). THE CARD IS WHAT COUNTS. Prove the row's statement (the work); the ties are given (YtidfejfgmlakpaaGreatDoorTie.lean); close each card by the builder's one call (the guide's Derived/Test/ToyasCard.lean, 'card_holds'). Laid BY PROGRAM, IN A SANDBOX (cutbox-door.mjs). By AI agents, Wed Nov 11 2026. No macro, syntax, notation, axiom, sorry.
-/
import Derived.Test.YtidfejfgmlakpaaGreatDoorRows
import GoSem.ClaimSeven
namespace Go.Proofs.YtidfejfgmlakpaaGreatDoor
namespace Rows

/-- THE TIED CARD OF 'tallymarklaw23.PmfSteps'. -/
def pmfStepsCard : Claim7 := { stood := { row := pmfStepsRow, standIns := [], harness := (true, "16777354aabc724c1177a61422d5f17079e966f8402a374ced6081e9a288c065"), looks := false }, kinds := [], alts := [], laidByText := true, laidKinds := [.data, .data, .data], laidTests := true, laidLooks := .later }
def PmfStepsCardSaid : Prop := Claim7.holds Tryz.pinned (.plain (OpenSpec.ofChange pmfStepsSpec)) pmfStepsCard

/-- THE SECOND FORM's CARD OF 'tallymarklaw23.PmfSteps'. -/
def pmfStepsUptoCard : Claim7 := { stood := { row := pmfStepsUptoRow, standIns := [], harness := (true, "16777354aabc724c1177a61422d5f17079e966f8402a374ced6081e9a288c065"), looks := false }, kinds := [], alts := [], laidByText := true, laidKinds := [.data, .data, .data], laidTests := true, laidLooks := .later }
def PmfStepsUptoCardSaid : Prop := Claim7.holds Tryz.pinned (.plain (OpenSpec.upto pmfStepsSpec)) pmfStepsUptoCard
end Rows
end Go.Proofs.YtidfejfgmlakpaaGreatDoor
