/- The law PmfChains returns true, whatever the input, and leaves the input as it was: the card. -/
import Derived.Test.YtmpjlkclkhnpfaaGreatDoorPmfChainsQ
import Derived.Test.YtmpjlkclkhnpfaaGreatDoorPmfChainsO
import Derived.Test.YtmpjlkclkhnpfaaGreatDoorFlat
import Derived.Test.YtmpjlkclkhnpfaaGreatDoorTabs
import Derived.Test.YtmpjlkclkhnpfaaGreatDoorCards
import Derived.Test.YtmpjlkclkhnpfaaGreatDoorTie
import Derived.SevenTiedAt
import Derived.LaidLaws
import Derived.LaidHandle
import Derived.Handed
import Derived.Deep.DeepLaidRun
import Derived.Test.YtmpjlkclkhnpfaaGreatDoorOpen
namespace Go.Proofs.YtmpjlkclkhnpfaaGreatDoor.pmfChains
open Go.ChangeShapes Go.WideShapes Go.ChangeAt Go.RowKit

theorem card : Rows.PmfChainsCardSaid :=
  Claim7.holds_tied_plain_at .later [] [.data, .data, .data] true (true, "80d02b1f73a68896164c874752778e19b9c8390c8d18b1a7b117744f0abc6164") false
    proved (fun _ h => by cases h) (by kernel_rfl) (fun _ h => by cases h) pmfChains_row_tie rfl ⟨rfl, rfl⟩ (by kernel_rfl) rfl
    (fun f fn hf hfn => by
      obtain rfl : f = 5 := Option.some.inj ((show Tryz.prog.funcNamed "tallymark/tallymarklaw23.PmfChains" = some 5 by kernel_rfl).symm.trans hf) |>.symm
      obtain rfl : fn = Tryz.f5 := (Option.some.inj (Tryz.func5.symm.trans hfn)).symm
      exact ⟨by kernel_rfl, fun j t ht => by
        rw [Tryz.params5] at ht
        rcases j with _ | _ | _ | j
        · simp at ht; subst ht; kernel_rfl
        · simp at ht; subst ht; kernel_rfl
        · simp at ht; subst ht; kernel_rfl
        · simp at ht⟩)
    card_by
#print axioms card
end Go.Proofs.YtmpjlkclkhnpfaaGreatDoor.pmfChains
