/- What functions lead to: part 2. Written by a program. -/
import Derived.Test.YtdakiocgijlgiaaGreatDoorScriptParsesC
namespace Go.Proofs.YtdakiocgijlgiaaGreatDoor.scriptParses
theorem ok_2 : (List.range' 242 121).all (okF LTs Tryz.prog) = true := by kernel_rfl
end Go.Proofs.YtdakiocgijlgiaaGreatDoor.scriptParses
