/- What the row KernelErrors asks of the program. Written by a program. -/
import Derived.Test.YtpobgdipcbglcaaGreatDoorKernelErrorsJ
import Derived.Test.YtpobgdipcbglcaaGreatDoorCards
namespace Go.Proofs.YtpobgdipcbglcaaGreatDoor.kernelErrors
set_option maxRecDepth 100000
theorem w_joined : joinedFacts Tryz.pinned.checked.prog 3 Tryz.f3 Rows.kernelErrorsSpec Rows.kernelErrorsRow = true := by
  rw [w_prog]; unfold joinedFacts; rw [w_inp, w_unf, w_rec, w_vars]; kernel_rfl
end Go.Proofs.YtpobgdipcbglcaaGreatDoor.kernelErrors
