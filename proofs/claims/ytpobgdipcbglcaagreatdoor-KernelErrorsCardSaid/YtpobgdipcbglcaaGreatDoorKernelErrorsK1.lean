/- What functions lead to: part 1. Written by a program. -/
import Derived.Test.YtpobgdipcbglcaaGreatDoorKernelErrorsC
namespace Go.Proofs.YtpobgdipcbglcaaGreatDoor.kernelErrors
theorem ok_1 : (List.range' 125 125).all (okF LTs Tryz.prog) = true := by kernel_rfl
end Go.Proofs.YtpobgdipcbglcaaGreatDoor.kernelErrors
