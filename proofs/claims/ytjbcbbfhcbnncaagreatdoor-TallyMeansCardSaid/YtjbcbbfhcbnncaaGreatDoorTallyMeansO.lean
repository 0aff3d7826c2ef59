/- What the row TallyMeans goes by. -/
import Derived.Test.YtjbcbbfhcbnncaaGreatDoorFlat
import Derived.Test.YtjbcbbfhcbnncaaGreatDoorTabs
import Derived.Test.YtjbcbbfhcbnncaaGreatDoorCards
import Derived.Test.YtjbcbbfhcbnncaaGreatDoorTie
import Derived.SevenTiedAt
import Derived.LaidLaws
import Derived.LaidHandle
import Derived.Handed
import Derived.Deep.DeepLaidRun
import Derived.Test.YtjbcbbfhcbnncaaGreatDoorOpen
namespace Go.Proofs.YtjbcbbfhcbnncaaGreatDoor.tallyMeans
open Go.ChangeShapes Go.WideShapes Go.ChangeAt Go.RowKit

theorem card_by : false = Rows.tallyMeansRow.goesBy Tryz.pinned.checked.prog := by kernel_rfl
end Go.Proofs.YtjbcbbfhcbnncaaGreatDoor.tallyMeans
