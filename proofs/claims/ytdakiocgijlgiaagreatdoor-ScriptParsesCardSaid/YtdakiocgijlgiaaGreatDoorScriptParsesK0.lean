/- What functions lead to: part 0. Written by a program. -/
import Derived.Test.YtdakiocgijlgiaaGreatDoorScriptParsesC
namespace Go.Proofs.YtdakiocgijlgiaaGreatDoor.scriptParses
theorem ok_0 : (List.range' 0 121).all (okF LTs Tryz.prog) = true := by kernel_rfl
end Go.Proofs.YtdakiocgijlgiaaGreatDoor.scriptParses
