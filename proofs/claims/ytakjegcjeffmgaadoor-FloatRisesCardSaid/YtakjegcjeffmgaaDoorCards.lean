/-
  DERIVED. GIVEN WITH THE SEED: THE CARDS: each row of YtakjegcjeffmgaaDoorRows.lean that lists a variable, with what it lists TIED to the program's text (the seventh form; the later family's looks); each row that meets fmt, with fmt's text TOLD by the authors' own Lean function (tested against real Go, not proved from fmt's source: count such statements apart). THE CARD IS WHAT COUNTS. Prove the row's statement (the work); the ties are given (YtakjegcjeffmgaaDoorTie.lean); close each card by the builder's one call (the guide's Derived/Test/ToyasCard.lean, 'card_holds'). Laid BY PROGRAM, IN A SANDBOX (cutbox-door.mjs). By AI agents, Wed Nov 11 2026. No macro, syntax, notation, axiom, sorry.
-/
import Derived.Test.YtakjegcjeffmgaaDoorRows
import GoSem.ClaimSeven
namespace Go.Proofs.YtakjegcjeffmgaaDoor
namespace Rows

/-- THE TIED CARD OF 'tallymarklaw14.YuBounds'. -/
def yuBoundsCard : Claim7 := { stood := { row := yuBoundsRow, standIns := [], harness := (true, "e8e8e1f95388e337ff861627a268103a40d815a654dee1494193020377edd297"), looks := false }, kinds := [], alts := [], laidByText := true, laidKinds := [.data, .data, .data], laidTests := true, laidLooks := .later }
def YuBoundsCardSaid : Prop := Claim7.holds Tryd.pinned (.plain (OpenSpec.ofChange yuBoundsSpec)) yuBoundsCard

/-- THE TIED CARD OF 'tallymarklaw14.YuRises'. -/
def yuRisesCard : Claim7 := { stood := { row := yuRisesRow, standIns := [], harness := (true, "e8e8e1f95388e337ff861627a268103a40d815a654dee1494193020377edd297"), looks := false }, kinds := [], alts := [], laidByText := true, laidKinds := [.data, .data, .data], laidTests := true, laidLooks := .later }
def YuRisesCardSaid : Prop := Claim7.holds Tryd.pinned (.plain (OpenSpec.ofChange yuRisesSpec)) yuRisesCard

/-- THE TIED CARD OF 'tallymarklaw14.YuSteps'. -/
def yuStepsCard : Claim7 := { stood := { row := yuStepsRow, standIns := [], harness := (true, "e8e8e1f95388e337ff861627a268103a40d815a654dee1494193020377edd297"), looks := false }, kinds := [], alts := [], laidByText := true, laidKinds := [.data, .data, .data], laidTests := true, laidLooks := .later }
def YuStepsCardSaid : Prop := Claim7.holds Tryd.pinned (.plain (OpenSpec.ofChange yuStepsSpec)) yuStepsCard

/-- THE TIED CARD OF 'tallymarklaw13.FloatTells'. -/
def floatTellsCard : Claim7 := { stood := { row := floatTellsRow, standIns := [], harness := (true, "e8e8e1f95388e337ff861627a268103a40d815a654dee1494193020377edd297"), looks := false }, kinds := [], alts := [], laidByText := true, laidKinds := [.data, .data, .data], laidTests := true, laidLooks := .later }
def FloatTellsCardSaid : Prop := Claim7.holds Tryd.pinned (.plain (OpenSpec.ofChange floatTellsSpec)) floatTellsCard

/-- THE TIED CARD OF 'tallymarklaw13.FloatSteps'. -/
def floatStepsCard : Claim7 := { stood := { row := floatStepsRow, standIns := [], harness := (true, "e8e8e1f95388e337ff861627a268103a40d815a654dee1494193020377edd297"), looks := false }, kinds := [], alts := [], laidByText := true, laidKinds := [.data, .data, .data], laidTests := true, laidLooks := .later }
def FloatStepsCardSaid : Prop := Claim7.holds Tryd.pinned (.plain (OpenSpec.ofChange floatStepsSpec)) floatStepsCard

/-- THE TIED CARD OF 'tallymarklaw13.FloatRises'. -/
def floatRisesCard : Claim7 := { stood := { row := floatRisesRow, standIns := [], harness := (true, "e8e8e1f95388e337ff861627a268103a40d815a654dee1494193020377edd297"), looks := false }, kinds := [], alts := [], laidByText := true, laidKinds := [.data, .data, .data], laidTests := true, laidLooks := .later }
def FloatRisesCardSaid : Prop := Claim7.holds Tryd.pinned (.plain (OpenSpec.ofChange floatRisesSpec)) floatRisesCard

/-- THE SECOND FORM's CARD OF 'tallymarklaw14.YuBounds'. -/
def yuBoundsUptoCard : Claim7 := { stood := { row := yuBoundsUptoRow, standIns := [], harness := (true, "e8e8e1f95388e337ff861627a268103a40d815a654dee1494193020377edd297"), looks := false }, kinds := [], alts := [], laidByText := true, laidKinds := [.data, .data, .data], laidTests := true, laidLooks := .later }
def YuBoundsUptoCardSaid : Prop := Claim7.holds Tryd.pinned (.plain (OpenSpec.upto yuBoundsSpec)) yuBoundsUptoCard

/-- THE SECOND FORM's CARD OF 'tallymarklaw14.YuRises'. -/
def yuRisesUptoCard : Claim7 := { stood := { row := yuRisesUptoRow, standIns := [], harness := (true, "e8e8e1f95388e337ff861627a268103a40d815a654dee1494193020377edd297"), looks := false }, kinds := [], alts := [], laidByText := true, laidKinds := [.data, .data, .data], laidTests := true, laidLooks := .later }
def YuRisesUptoCardSaid : Prop := Claim7.holds Tryd.pinned (.plain (OpenSpec.upto yuRisesSpec)) yuRisesUptoCard

/-- THE SECOND FORM's CARD OF 'tallymarklaw14.YuSteps'. -/
def yuStepsUptoCard : Claim7 := { stood := { row := yuStepsUptoRow, standIns := [], harness := (true, "e8e8e1f95388e337ff861627a268103a40d815a654dee1494193020377edd297"), looks := false }, kinds := [], alts := [], laidByText := true, laidKinds := [.data, .data, .data], laidTests := true, laidLooks := .later }
def YuStepsUptoCardSaid : Prop := Claim7.holds Tryd.pinned (.plain (OpenSpec.upto yuStepsSpec)) yuStepsUptoCard

/-- THE SECOND FORM's CARD OF 'tallymarklaw13.FloatTells'. -/
def floatTellsUptoCard : Claim7 := { stood := { row := floatTellsUptoRow, standIns := [], harness := (true, "e8e8e1f95388e337ff861627a268103a40d815a654dee1494193020377edd297"), looks := false }, kinds := [], alts := [], laidByText := true, laidKinds := [.data, .data, .data], laidTests := true, laidLooks := .later }
def FloatTellsUptoCardSaid : Prop := Claim7.holds Tryd.pinned (.plain (OpenSpec.upto floatTellsSpec)) floatTellsUptoCard

/-- THE SECOND FORM's CARD OF 'tallymarklaw13.FloatSteps'. -/
def floatStepsUptoCard : Claim7 := { stood := { row := floatStepsUptoRow, standIns := [], harness := (true, "e8e8e1f95388e337ff861627a268103a40d815a654dee1494193020377edd297"), looks := false }, kinds := [], alts := [], laidByText := true, laidKinds := [.data, .data, .data], laidTests := true, laidLooks := .later }
def FloatStepsUptoCardSaid : Prop := Claim7.holds Tryd.pinned (.plain (OpenSpec.upto floatStepsSpec)) floatStepsUptoCard

/-- THE SECOND FORM's CARD OF 'tallymarklaw13.FloatRises'. -/
def floatRisesUptoCard : Claim7 := { stood := { row := floatRisesUptoRow, standIns := [], harness := (true, "e8e8e1f95388e337ff861627a268103a40d815a654dee1494193020377edd297"), looks := false }, kinds := [], alts := [], laidByText := true, laidKinds := [.data, .data, .data], laidTests := true, laidLooks := .later }
def FloatRisesUptoCardSaid : Prop := Claim7.holds Tryd.pinned (.plain (OpenSpec.upto floatRisesSpec)) floatRisesUptoCard
end Rows
end Go.Proofs.YtakjegcjeffmgaaDoor
