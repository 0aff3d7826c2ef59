/- What the row ChainWeighs goes by. -/
import Derived.Test.YtabnkmpkcfjkmaaGreatDoorFlat
import Derived.Test.YtabnkmpkcfjkmaaGreatDoorTabs
import Derived.Test.YtabnkmpkcfjkmaaGreatDoorCards
import Derived.Test.YtabnkmpkcfjkmaaGreatDoorTie
import Derived.SevenTiedAt
import Derived.LaidLaws
import Derived.LaidHandle
import Derived.Handed
import Derived.Deep.DeepLaidRun
import Derived.Test.YtabnkmpkcfjkmaaGreatDoorOpen
namespace Go.Proofs.YtabnkmpkcfjkmaaGreatDoor.chainWeighs
open Go.ChangeShapes Go.WideShapes Go.ChangeAt Go.RowKit

theorem card_by : false = Rows.chainWeighsRow.goesBy Tryz.pinned.checked.prog := by kernel_rfl
end Go.Proofs.YtabnkmpkcfjkmaaGreatDoor.chainWeighs
