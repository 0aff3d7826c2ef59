/- What the row PmfChains goes by. -/
import Derived.Test.YtmpjlkclkhnpfaaGreatDoorFlat
import Derived.Test.YtmpjlkclkhnpfaaGreatDoorTabs
import Derived.Test.YtmpjlkclkhnpfaaGreatDoorCards
import Derived.Test.YtmpjlkclkhnpfaaGreatDoorTie
import Derived.SevenTiedAt
import Derived.LaidLaws
import Derived.LaidHandle
import Derived.Handed
import Derived.Deep.DeepLaidRun
import Derived.Test.YtmpjlkclkhnpfaaGreatDoorOpen
namespace Go.Proofs.YtmpjlkclkhnpfaaGreatDoor.pmfChains
open Go.ChangeShapes Go.WideShapes Go.ChangeAt Go.RowKit

theorem card_by : false = Rows.pmfChainsRow.goesBy Tryz.pinned.checked.prog := by kernel_rfl
end Go.Proofs.YtmpjlkclkhnpfaaGreatDoor.pmfChains
