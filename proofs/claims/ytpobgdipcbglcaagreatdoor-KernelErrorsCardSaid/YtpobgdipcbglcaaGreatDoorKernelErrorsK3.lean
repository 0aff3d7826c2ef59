/- What functions lead to: part 3. Written by a program. -/
import Derived.Test.YtpobgdipcbglcaaGreatDoorKernelErrorsC
namespace Go.Proofs.YtpobgdipcbglcaaGreatDoor.kernelErrors
theorem ok_3 : (List.range' 375 123).all (okF LTs Tryz.prog) = true := by kernel_rfl
end Go.Proofs.YtpobgdipcbglcaaGreatDoor.kernelErrors
