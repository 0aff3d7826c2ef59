/- What the row ScriptLong asks of the program. Written by a program. -/
import Derived.Test.YtdakiocgijlgiaaGreatDoorScriptLongJ
import Derived.Test.YtdakiocgijlgiaaGreatDoorCards
namespace Go.Proofs.YtdakiocgijlgiaaGreatDoor.scriptLong
set_option maxRecDepth 100000
theorem w_joined : joinedFacts Tryz.pinned.checked.prog 3 Tryz.f3 Rows.scriptLongSpec Rows.scriptLongRow = true := by
  rw [w_prog]; unfold joinedFacts; rw [w_inp, w_unf, w_rec, w_vars]; kernel_rfl
end Go.Proofs.YtdakiocgijlgiaaGreatDoor.scriptLong
