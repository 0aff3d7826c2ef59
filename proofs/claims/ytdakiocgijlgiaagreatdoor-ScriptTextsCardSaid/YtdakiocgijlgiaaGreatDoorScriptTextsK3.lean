/- What functions lead to: part 3. Written by a program. -/
import Derived.Test.YtdakiocgijlgiaaGreatDoorScriptTextsC
namespace Go.Proofs.YtdakiocgijlgiaaGreatDoor.scriptTexts
theorem ok_3 : (List.range' 363 119).all (okF LTs Tryz.prog) = true := by kernel_rfl
end Go.Proofs.YtdakiocgijlgiaaGreatDoor.scriptTexts
