/- What functions lead to: part 0. Written by a program. -/
import Derived.Test.YtdakiocgijlgiaaGreatDoorScriptTextsC
namespace Go.Proofs.YtdakiocgijlgiaaGreatDoor.scriptTexts
theorem ok_0 : (List.range' 0 121).all (okF LTs Tryz.prog) = true := by kernel_rfl
end Go.Proofs.YtdakiocgijlgiaaGreatDoor.scriptTexts
