/- The law ChainWeighs returns true, whatever the input, and leaves the input as it was: the card. -/
import Derived.Test.YtabnkmpkcfjkmaaGreatDoorChainWeighsQ
import Derived.Test.YtabnkmpkcfjkmaaGreatDoorChainWeighsO
import Derived.Test.YtabnkmpkcfjkmaaGreatDoorFlat
import Derived.Test.YtabnkmpkcfjkmaaGreatDoorTabs
import Derived.Test.YtabnkmpkcfjkmaaGreatDoorCards
import Derived.Test.YtabnkmpkcfjkmaaGreatDoorTie
import Derived.SevenTiedAt
import Derived.LaidLaws
import Derived.LaidHandle
import Derived.Handed
import Derived.Deep.DeepLaidRun
import Derived.Test.YtabnkmpkcfjkmaaGreatDoorOpen
namespace Go.Proofs.YtabnkmpkcfjkmaaGreatDoor.chainWeighs
open Go.ChangeShapes Go.WideShapes Go.ChangeAt Go.RowKit

theorem card : Rows.ChainWeighsCardSaid :=
  Claim7.holds_tied_plain_at .later [] [.data, .data, .data] true (true, "ab29dc0f461c6c80f259790723fdca08be1a97dfd997b71709e67b58032dd83d") false
    proved (fun _ h => by cases h) (by kernel_rfl) (fun _ h => by cases h) chainWeighs_row_tie rfl ⟨rfl, rfl⟩ (by kernel_rfl) rfl
    (fun f fn hf hfn => by
      obtain rfl : f = 3 := Option.some.inj ((show Tryz.prog.funcNamed "tallymark/tallymarklaw15.ChainWeighs" = some 3 by kernel_rfl).symm.trans hf) |>.symm
      obtain rfl : fn = Tryz.f3 := (Option.some.inj (Tryz.func3.symm.trans hfn)).symm
      exact ⟨by kernel_rfl, fun j t ht => by
        rw [Tryz.params3] at ht
        rcases j with _ | _ | _ | j
        · simp at ht; subst ht; kernel_rfl
        · simp at ht; subst ht; kernel_rfl
        · simp at ht; subst ht; kernel_rfl
        · simp at ht⟩)
    card_by
#print axioms card
end Go.Proofs.YtabnkmpkcfjkmaaGreatDoor.chainWeighs
