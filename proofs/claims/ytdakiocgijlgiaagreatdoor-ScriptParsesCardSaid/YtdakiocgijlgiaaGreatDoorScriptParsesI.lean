/- What the row ScriptParses asks of the program. Written by a program. -/
import Derived.Test.YtdakiocgijlgiaaGreatDoorScriptParsesJ
import Derived.Test.YtdakiocgijlgiaaGreatDoorCards
namespace Go.Proofs.YtdakiocgijlgiaaGreatDoor.scriptParses
set_option maxRecDepth 100000
theorem w_joined : joinedFacts Tryz.pinned.checked.prog 5 Tryz.f5 Rows.scriptParsesSpec Rows.scriptParsesRow = true := by
  rw [w_prog]; unfold joinedFacts; rw [w_inp, w_unf, w_rec, w_vars]; kernel_rfl
end Go.Proofs.YtdakiocgijlgiaaGreatDoor.scriptParses
