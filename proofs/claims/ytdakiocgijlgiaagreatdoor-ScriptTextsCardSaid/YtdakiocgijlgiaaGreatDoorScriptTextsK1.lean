/- What functions lead to: part 1. Written by a program. -/
import Derived.Test.YtdakiocgijlgiaaGreatDoorScriptTextsC
namespace Go.Proofs.YtdakiocgijlgiaaGreatDoor.scriptTexts
theorem ok_1 : (List.range' 121 121).all (okF LTs Tryz.prog) = true := by kernel_rfl
end Go.Proofs.YtdakiocgijlgiaaGreatDoor.scriptTexts
