/- The law PmfSteps returns true, whatever the input, and leaves the input as it was: the card. -/
import Derived.Test.YtidfejfgmlakpaaGreatDoorPmfStepsQ
import Derived.Test.YtidfejfgmlakpaaGreatDoorPmfStepsO
import Derived.Test.YtidfejfgmlakpaaGreatDoorFlat
import Derived.Test.YtidfejfgmlakpaaGreatDoorTabs
import Derived.Test.YtidfejfgmlakpaaGreatDoorCards
import Derived.Test.YtidfejfgmlakpaaGreatDoorTie
import Derived.SevenTiedAt
import Derived.LaidLaws
import Derived.LaidHandle
import Derived.Handed
import Derived.Deep.DeepLaidRun
import Derived.Test.YtidfejfgmlakpaaGreatDoorOpen
namespace Go.Proofs.YtidfejfgmlakpaaGreatDoor.pmfSteps
open Go.ChangeShapes Go.WideShapes Go.ChangeAt Go.RowKit

theorem card : Rows.PmfStepsCardSaid :=
  Claim7.holds_tied_plain_at .later [] [.data, .data, .data] true (true, "16777354aabc724c1177a61422d5f17079e966f8402a374ced6081e9a288c065") false
    proved (fun _ h => by cases h) (by kernel_rfl) (fun _ h => by cases h) pmfSteps_row_tie rfl ⟨rfl, rfl⟩ (by kernel_rfl) rfl
    (fun f fn hf hfn => by
      obtain rfl : f = 3 := Option.some.inj ((show Tryz.prog.funcNamed "tallymark/tallymarklaw23.PmfSteps" = some 3 by kernel_rfl).symm.trans hf) |>.symm
      obtain rfl : fn = Tryz.f3 := (Option.some.inj (Tryz.func3.symm.trans hfn)).symm
      exact ⟨by kernel_rfl, fun j t ht => by
        rw [Tryz.params3] at ht
        rcases j with _ | _ | _ | j
        · simp at ht; subst ht; kernel_rfl
        · simp at ht; subst ht; kernel_rfl
        · simp at ht; subst ht; kernel_rfl
        · simp at ht⟩)
    card_by
#print axioms card
end Go.Proofs.YtidfejfgmlakpaaGreatDoor.pmfSteps
