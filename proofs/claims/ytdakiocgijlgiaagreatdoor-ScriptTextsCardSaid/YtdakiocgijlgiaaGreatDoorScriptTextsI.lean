/- What the row ScriptTexts asks of the program. Written by a program. -/
import Derived.Test.YtdakiocgijlgiaaGreatDoorScriptTextsJ
import Derived.Test.YtdakiocgijlgiaaGreatDoorCards
namespace Go.Proofs.YtdakiocgijlgiaaGreatDoor.scriptTexts
set_option maxRecDepth 100000
theorem w_joined : joinedFacts Tryz.pinned.checked.prog 4 Tryz.f4 Rows.scriptTextsSpec Rows.scriptTextsRow = true := by
  rw [w_prog]; unfold joinedFacts; rw [w_inp, w_unf, w_rec, w_vars]; kernel_rfl
end Go.Proofs.YtdakiocgijlgiaaGreatDoor.scriptTexts
