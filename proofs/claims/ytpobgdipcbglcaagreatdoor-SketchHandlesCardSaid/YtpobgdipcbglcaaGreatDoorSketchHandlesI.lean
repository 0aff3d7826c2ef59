/- What the row SketchHandles asks of the program. Written by a program. -/
import Derived.Test.YtpobgdipcbglcaaGreatDoorSketchHandlesJ
import Derived.Test.YtpobgdipcbglcaaGreatDoorCards
namespace Go.Proofs.YtpobgdipcbglcaaGreatDoor.sketchHandles
set_option maxRecDepth 100000
theorem w_joined : joinedFacts Tryz.pinned.checked.prog 4 Tryz.f4 Rows.sketchHandlesSpec Rows.sketchHandlesRow = true := by
  rw [w_prog]; unfold joinedFacts; rw [w_inp, w_unf, w_rec, w_vars]; kernel_rfl
end Go.Proofs.YtpobgdipcbglcaaGreatDoor.sketchHandles
