/-
  DERIVED. GIVEN WITH THE SEED: THE CARDS: each row of YtpobgdipcbglcaaGreatDoorRows.lean that lists a variable, with what it lists TIED to the program's text (the seventh form; the later family's looks); each row that meets fmt, with fmt's text TOLD by the authors' own Lean function (tested against real Go, not proved from fmt's source: count such statements apart). THE CARD IS WHAT COUNTS. Prove the row's statement (the work); the ties are given (YtpobgdipcbglcaaGreatDoorTie.lean); close each card by the builder's one call (the guide's Derived/Test/ToyasCard.lean, 'card_holds'). Laid BY PROGRAM, IN A SANDBOX (cutbox-door.mjs). By AI agents, Wed Nov 11 2026. No macro, syntax, notation, axiom, sorry.
-/
import Derived.Test.YtpobgdipcbglcaaGreatDoorRows
import GoSem.ClaimSeven
namespace Go.Proofs.YtpobgdipcbglcaaGreatDoor
namespace Rows

/-- THE TIED CARD OF 'tallymarklaw29.KernelErrors'. -/
def kernelErrorsCard : Claim7 := { stood := { row := kernelErrorsRow, standIns := [], harness := (true, "c2f847a3ecd599ee193e26f64da10061d520e47dfcc92906251359bef7fba497"), looks := false }, kinds := [], alts := [], laidByText := true, laidKinds := [.data, .data, .data], laidTests := true, laidLooks := .later }
def KernelErrorsCardSaid : Prop := Claim7.holds Tryz.pinned (.plain (OpenSpec.ofChange kernelErrorsSpec)) kernelErrorsCard

/-- THE TIED CARD OF 'tallymarklaw26.SketchHandles'. -/
def sketchHandlesCard : Claim7 := { stood := { row := sketchHandlesRow, standIns := [], harness := (true, "c2f847a3ecd599ee193e26f64da10061d520e47dfcc92906251359bef7fba497"), looks := false }, kinds := [], alts := [], laidByText := true, laidKinds := [.data, .data, .data], laidTests := true, laidLooks := .later }
def SketchHandlesCardSaid : Prop := Claim7.holds Tryz.pinned (.plain (OpenSpec.ofChange sketchHandlesSpec)) sketchHandlesCard

/-- THE SECOND FORM's CARD OF 'tallymarklaw29.KernelErrors'. -/
def kernelErrorsUptoCard : Claim7 := { stood := { row := kernelErrorsUptoRow, standIns := [], harness := (true, "c2f847a3ecd599ee193e26f64da10061d520e47dfcc92906251359bef7fba497"), looks := false }, kinds := [], alts := [], laidByText := true, laidKinds := [.data, .data, .data], laidTests := true, laidLooks := .later }
def KernelErrorsUptoCardSaid : Prop := Claim7.holds Tryz.pinned (.plain (OpenSpec.upto kernelErrorsSpec)) kernelErrorsUptoCard

/-- THE SECOND FORM's CARD OF 'tallymarklaw26.SketchHandles'. -/
def sketchHandlesUptoCard : Claim7 := { stood := { row := sketchHandlesUptoRow, standIns := [], harness := (true, "c2f847a3ecd599ee193e26f64da10061d520e47dfcc92906251359bef7fba497"), looks := false }, kinds := [], alts := [], laidByText := true, laidKinds := [.data, .data, .data], laidTests := true, laidLooks := .later }
def SketchHandlesUptoCardSaid : Prop := Claim7.holds Tryz.pinned (.plain (OpenSpec.upto sketchHandlesSpec)) sketchHandlesUptoCard
end Rows
end Go.Proofs.YtpobgdipcbglcaaGreatDoor
