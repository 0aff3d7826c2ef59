/- The law ScriptTexts returns true, whatever the input, and leaves the input as it was: the card. -/
import Derived.Test.YtdakiocgijlgiaaGreatDoorScriptTextsQ
import Derived.Test.YtdakiocgijlgiaaGreatDoorFlat
import Derived.Test.YtdakiocgijlgiaaGreatDoorShape
import Derived.Test.YtdakiocgijlgiaaGreatDoorNest
import Derived.Test.YtdakiocgijlgiaaGreatDoorTabsS
import Derived.Test.YtdakiocgijlgiaaGreatDoorCards
import Derived.Test.YtdakiocgijlgiaaGreatDoorTie
import Derived.SevenTiedAt
import Derived.LaidLaws
import Derived.LaidHandle
import Derived.Handed
import Derived.Deep.DeepLaidRun
import Derived.ChangeMaps5
import Derived.Test.YtdakiocgijlgiaaGreatDoorOpen
namespace Go.Proofs.YtdakiocgijlgiaaGreatDoor.scriptTexts
open Go.ChangeShapes Go.WideShapes Go.ChangeAt Go.RowKit

theorem card : Rows.ScriptTextsCardSaid :=
  Claim7.holds_tied_plain_at .later [] [.data, .data, .data, .data, .sentinel, .sentinel, .pinned] true (true, "6b891700229874df0e01f1c7f2430eb8a9d76537811cdcbc1214d3ece08180dd") true
    proved (fun _ h => by cases h) (by kernel_rfl) (fun _ h => by cases h) scriptTexts_row_tie rfl ⟨rfl, rfl⟩ (by kernel_rfl) rfl
    (fun f fn hf hfn => by
      obtain rfl : f = 4 := Option.some.inj ((show Tryz.prog.funcNamed "tallymark/tallymarklaw27.ScriptTexts" = some 4 by kernel_rfl).symm.trans hf) |>.symm
      obtain rfl : fn = Tryz.f4 := (Option.some.inj (Tryz.func4.symm.trans hfn)).symm
      exact ⟨by kernel_rfl, fun j t ht => by
        rw [Tryz.params4] at ht
        rcases j with _ | j
        · simp at ht; subst ht; kernel_rfl
        · simp at ht⟩)
    card_by
#print axioms card
end Go.Proofs.YtdakiocgijlgiaaGreatDoor.scriptTexts
