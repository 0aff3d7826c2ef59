/-
  DERIVED. GIVEN WITH THE SEED: THE CARDS: each row of YtlelpbaeplcfiaaDoorRows.lean that lists a variable, with what it lists TIED to the program's text (the seventh form; the later family's looks); each row that meets fmt, with fmt's text TOLD by the authors' own Lean function (tested against real Go, not proved from fmt's source: count such statements apart). THE CARD IS WHAT COUNTS. Prove the row's statement (the work); the ties are given (YtlelpbaeplcfiaaDoorTie.lean); close each card by the builder's one call (the guide's Derived/Test/ToyasCard.lean, 'card_holds'). Laid BY PROGRAM, IN A SANDBOX (cutbox-door.mjs). By AI agents, Wed Nov 11 2026. No macro, syntax, notation, axiom, sorry.
-/
import Derived.Test.YtlelpbaeplcfiaaDoorRows
import GoSem.ClaimSeven
namespace Go.Proofs.YtlelpbaeplcfiaaDoor
namespace Rows

/-- THE TIED CARD OF 'tallymarklaw14.YuBounds'. -/
def yuBoundsCard : Claim7 := { stood := { row := yuBoundsRow, standIns := [], harness := (true, "994b8cf4c80807a2a614bdf952a77859886fc15c80c665d56491bcdcde93d5d7"), looks := false }, kinds := [], alts := [], laidByText := true, laidKinds := [.data, .data, .data], laidTests := true, laidLooks := .later }
def YuBoundsCardSaid : Prop := Claim7.holds Tryd.pinned (.plain (OpenSpec.ofChange yuBoundsSpec)) yuBoundsCard

/-- THE TIED CARD OF 'tallymarklaw13.FloatTells'. -/
def floatTellsCard : Claim7 := { stood := { row := floatTellsRow, standIns := [], harness := (true, "994b8cf4c80807a2a614bdf952a77859886fc15c80c665d56491bcdcde93d5d7"), looks := false }, kinds := [], alts := [], laidByText := true, laidKinds := [.data, .data, .data], laidTests := true, laidLooks := .later }
def FloatTellsCardSaid : Prop := Claim7.holds Tryd.pinned (.plain (OpenSpec.ofChange floatTellsSpec)) floatTellsCard

/-- THE TIED CARD OF 'tallymarklaw14.YuPlaces'. -/
def yuPlacesCard : Claim7 := { stood := { row := yuPlacesRow, standIns := [], harness := (true, "994b8cf4c80807a2a614bdf952a77859886fc15c80c665d56491bcdcde93d5d7"), looks := false }, kinds := [], alts := [], laidByText := true, laidKinds := [.data, .data, .data], laidTests := true, laidLooks := .later }
def YuPlacesCardSaid : Prop := Claim7.holds Tryd.pinned (.plain (OpenSpec.ofChange yuPlacesSpec)) yuPlacesCard

/-- THE SECOND FORM's CARD OF 'tallymarklaw14.YuBounds'. -/
def yuBoundsUptoCard : Claim7 := { stood := { row := yuBoundsUptoRow, standIns := [], harness := (true, "994b8cf4c80807a2a614bdf952a77859886fc15c80c665d56491bcdcde93d5d7"), looks := false }, kinds := [], alts := [], laidByText := true, laidKinds := [.data, .data, .data], laidTests := true, laidLooks := .later }
def YuBoundsUptoCardSaid : Prop := Claim7.holds Tryd.pinned (.plain (OpenSpec.upto yuBoundsSpec)) yuBoundsUptoCard

/-- THE SECOND FORM's CARD OF 'tallymarklaw13.FloatTells'. -/
def floatTellsUptoCard : Claim7 := { stood := { row := floatTellsUptoRow, standIns := [], harness := (true, "994b8cf4c80807a2a614bdf952a77859886fc15c80c665d56491bcdcde93d5d7"), looks := false }, kinds := [], alts := [], laidByText := true, laidKinds := [.data, .data, .data], laidTests := true, laidLooks := .later }
def FloatTellsUptoCardSaid : Prop := Claim7.holds Tryd.pinned (.plain (OpenSpec.upto floatTellsSpec)) floatTellsUptoCard

/-- THE SECOND FORM's CARD OF 'tallymarklaw14.YuPlaces'. -/
def yuPlacesUptoCard : Claim7 := { stood := { row := yuPlacesUptoRow, standIns := [], harness := (true, "994b8cf4c80807a2a614bdf952a77859886fc15c80c665d56491bcdcde93d5d7"), looks := false }, kinds := [], alts := [], laidByText := true, laidKinds := [.data, .data, .data], laidTests := true, laidLooks := .later }
def YuPlacesUptoCardSaid : Prop := Claim7.holds Tryd.pinned (.plain (OpenSpec.upto yuPlacesSpec)) yuPlacesUptoCard
end Rows
end Go.Proofs.YtlelpbaeplcfiaaDoor
