/- What functions lead to: part 1. Written by a program. -/
import Derived.Test.YtpobgdipcbglcaaGreatDoorSketchHandlesC
namespace Go.Proofs.YtpobgdipcbglcaaGreatDoor.sketchHandles
theorem ok_1 : (List.range' 125 125).all (okF LTs Tryz.prog) = true := by kernel_rfl
end Go.Proofs.YtpobgdipcbglcaaGreatDoor.sketchHandles
