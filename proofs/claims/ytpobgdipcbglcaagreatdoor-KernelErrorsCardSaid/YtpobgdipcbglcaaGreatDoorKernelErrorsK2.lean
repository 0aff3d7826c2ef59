/- What functions lead to: part 2. Written by a program. -/
import Derived.Test.YtpobgdipcbglcaaGreatDoorKernelErrorsC
namespace Go.Proofs.YtpobgdipcbglcaaGreatDoor.kernelErrors
theorem ok_2 : (List.range' 250 125).all (okF LTs Tryz.prog) = true := by kernel_rfl
end Go.Proofs.YtpobgdipcbglcaaGreatDoor.kernelErrors
