/- The law TallyMeans returns true, whatever the input, and leaves the input as it was: the card. -/
import Derived.Test.YtjbcbbfhcbnncaaGreatDoorTallyMeansQ
import Derived.Test.YtjbcbbfhcbnncaaGreatDoorTallyMeansO
import Derived.Test.YtjbcbbfhcbnncaaGreatDoorFlat
import Derived.Test.YtjbcbbfhcbnncaaGreatDoorTabs
import Derived.Test.YtjbcbbfhcbnncaaGreatDoorCards
import Derived.Test.YtjbcbbfhcbnncaaGreatDoorTie
import Derived.SevenTiedAt
import Derived.LaidLaws
import Derived.LaidHandle
import Derived.Handed
import Derived.Deep.DeepLaidRun
import Derived.Test.YtjbcbbfhcbnncaaGreatDoorOpen
namespace Go.Proofs.YtjbcbbfhcbnncaaGreatDoor.tallyMeans
open Go.ChangeShapes Go.WideShapes Go.ChangeAt Go.RowKit

theorem card : Rows.TallyMeansCardSaid :=
  Claim7.holds_tied_plain_at .later [] [.data, .data, .data] true (true, "dd163d4fc3d9bb13a994900178df409d26658ba990bd5b97583e6f1615e892a9") false
    proved (fun _ h => by cases h) (by kernel_rfl) (fun _ h => by cases h) tallyMeans_row_tie rfl ⟨rfl, rfl⟩ (by kernel_rfl) rfl
    (fun f fn hf hfn => by
      obtain rfl : f = 10 := Option.some.inj ((show Tryz.prog.funcNamed "tallymark/tallymarktop.TallyMeans" = some 10 by kernel_rfl).symm.trans hf) |>.symm
      obtain rfl : fn = Tryz.f10 := (Option.some.inj (Tryz.func10.symm.trans hfn)).symm
      exact ⟨by kernel_rfl, fun j t ht => by
        rw [Tryz.params10] at ht
        rcases j with _ | _ | j
        · simp at ht; subst ht; kernel_rfl
        · simp at ht; subst ht; kernel_rfl
        · simp at ht⟩)
    card_by
#print axioms card
end Go.Proofs.YtjbcbbfhcbnncaaGreatDoor.tallyMeans
