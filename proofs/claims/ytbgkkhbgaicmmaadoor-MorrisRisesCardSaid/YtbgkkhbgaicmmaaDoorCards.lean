/-
  DERIVED. GIVEN WITH THE SEED: THE CARDS: each row of YtbgkkhbgaicmmaaDoorRows.lean that lists a variable, with what it lists TIED to the program's text (the seventh form; the later family's looks); each row that meets fmt, with fmt's text TOLD by the authors' own Lean function (tested against real Go, not proved from fmt's source: count such statements apart). THE CARD IS WHAT COUNTS. Prove the row's statement (the work); the ties are given (YtbgkkhbgaicmmaaDoorTie.lean); close each card by the builder's one call (the guide's Derived/Test/ToyasCard.lean, 'card_holds'). Laid BY PROGRAM, IN A SANDBOX (cutbox-door.mjs). By AI agents, Wed Nov 11 2026. No macro, syntax, notation, axiom, sorry.
-/
import Derived.Test.YtbgkkhbgaicmmaaDoorRows
import GoSem.ClaimSeven
namespace Go.Proofs.YtbgkkhbgaicmmaaDoor
namespace Rows

/-- THE TIED CARD OF 'tallymarklaw12.MorrisRises'. -/
def morrisRisesCard : Claim7 := { stood := { row := morrisRisesRow, standIns := [], harness := (true, "3734489b586365549ea8493ba6c17139ca00886ae1540b1ce0772a65e5698269"), looks := false }, kinds := [], alts := [], laidByText := true, laidKinds := [.data, .data, .data], laidTests := true, laidLooks := .later }
def MorrisRisesCardSaid : Prop := Claim7.holds Tryd.pinned (.plain (OpenSpec.ofChange morrisRisesSpec)) morrisRisesCard

/-- THE SECOND FORM's CARD OF 'tallymarklaw12.MorrisRises'. -/
def morrisRisesUptoCard : Claim7 := { stood := { row := morrisRisesUptoRow, standIns := [], harness := (true, "3734489b586365549ea8493ba6c17139ca00886ae1540b1ce0772a65e5698269"), looks := false }, kinds := [], alts := [], laidByText := true, laidKinds := [.data, .data, .data], laidTests := true, laidLooks := .later }
def MorrisRisesUptoCardSaid : Prop := Claim7.holds Tryd.pinned (.plain (OpenSpec.upto morrisRisesSpec)) morrisRisesUptoCard
end Rows
end Go.Proofs.YtbgkkhbgaicmmaaDoor
