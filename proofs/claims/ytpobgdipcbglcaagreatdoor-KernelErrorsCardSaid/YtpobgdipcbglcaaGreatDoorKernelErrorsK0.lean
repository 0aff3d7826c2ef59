/- What functions lead to: part 0. Written by a program. -/
import Derived.Test.YtpobgdipcbglcaaGreatDoorKernelErrorsC
namespace Go.Proofs.YtpobgdipcbglcaaGreatDoor.kernelErrors
theorem ok_0 : (List.range' 0 125).all (okF LTs Tryz.prog) = true := by kernel_rfl
end Go.Proofs.YtpobgdipcbglcaaGreatDoor.kernelErrors
