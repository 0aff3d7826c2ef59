/- What functions lead to: part 3. Written by a program. -/
import Derived.Test.YtdakiocgijlgiaaGreatDoorScriptParsesC
namespace Go.Proofs.YtdakiocgijlgiaaGreatDoor.scriptParses
theorem ok_3 : (List.range' 363 119).all (okF LTs Tryz.prog) = true := by kernel_rfl
end Go.Proofs.YtdakiocgijlgiaaGreatDoor.scriptParses
