/- The law KernelErrors returns true, whatever the input, and leaves the input as it was: the card. -/
import Derived.Test.YtpobgdipcbglcaaGreatDoorKernelErrorsQ
import Derived.Test.YtpobgdipcbglcaaGreatDoorFlat
import Derived.Test.YtpobgdipcbglcaaGreatDoorTabs
import Derived.Test.YtpobgdipcbglcaaGreatDoorCards
import Derived.Test.YtpobgdipcbglcaaGreatDoorTie
import Derived.SevenTiedAt
import Derived.LaidLaws
import Derived.LaidHandle
import Derived.Handed
import Derived.Deep.DeepLaidRun
import Derived.Test.YtpobgdipcbglcaaGreatDoorOpen
namespace Go.Proofs.YtpobgdipcbglcaaGreatDoor.kernelErrors
open Go.ChangeShapes Go.WideShapes Go.ChangeAt Go.RowKit

theorem card : Rows.KernelErrorsCardSaid :=
  Claim7.holds_tied_plain_at .later [] [.data, .data, .data] true (true, "c2f847a3ecd599ee193e26f64da10061d520e47dfcc92906251359bef7fba497") false
    proved (fun _ h => by cases h) (by kernel_rfl) (fun _ h => by cases h) kernelErrors_row_tie rfl ⟨rfl, rfl⟩ (by kernel_rfl) rfl
    (fun f fn hf hfn => by
      obtain rfl : f = 3 := Option.some.inj ((show Tryz.prog.funcNamed "tallymark/tallymarklaw29.KernelErrors" = some 3 by kernel_rfl).symm.trans hf) |>.symm
      obtain rfl : fn = Tryz.f3 := (Option.some.inj (Tryz.func3.symm.trans hfn)).symm
      exact ⟨by kernel_rfl, fun j t ht => by
        rw [Tryz.params3] at ht
        rcases j with _ | _ | _ | j
        · simp at ht; subst ht; kernel_rfl
        · simp at ht; subst ht; kernel_rfl
        · simp at ht; subst ht; kernel_rfl
        · simp at ht⟩)
    card_by
#print axioms card
end Go.Proofs.YtpobgdipcbglcaaGreatDoor.kernelErrors
