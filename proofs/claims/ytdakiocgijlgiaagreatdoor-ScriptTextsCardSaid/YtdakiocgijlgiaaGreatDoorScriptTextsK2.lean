/- What functions lead to: part 2. Written by a program. -/
import Derived.Test.YtdakiocgijlgiaaGreatDoorScriptTextsC
namespace Go.Proofs.YtdakiocgijlgiaaGreatDoor.scriptTexts
theorem ok_2 : (List.range' 242 121).all (okF LTs Tryz.prog) = true := by kernel_rfl
end Go.Proofs.YtdakiocgijlgiaaGreatDoor.scriptTexts
