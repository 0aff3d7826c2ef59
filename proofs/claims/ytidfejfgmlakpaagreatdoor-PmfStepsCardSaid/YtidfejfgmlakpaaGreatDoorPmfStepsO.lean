/- What the row PmfSteps goes by. -/
import Derived.Test.YtidfejfgmlakpaaGreatDoorFlat
import Derived.Test.YtidfejfgmlakpaaGreatDoorTabs
import Derived.Test.YtidfejfgmlakpaaGreatDoorCards
import Derived.Test.YtidfejfgmlakpaaGreatDoorTie
import Derived.SevenTiedAt
import Derived.LaidLaws
import Derived.LaidHandle
import Derived.Handed
import Derived.Deep.DeepLaidRun
import Derived.Test.YtidfejfgmlakpaaGreatDoorOpen
namespace Go.Proofs.YtidfejfgmlakpaaGreatDoor.pmfSteps
open Go.ChangeShapes Go.WideShapes Go.ChangeAt Go.RowKit

theorem card_by : false = Rows.pmfStepsRow.goesBy Tryz.pinned.checked.prog := by kernel_rfl
end Go.Proofs.YtidfejfgmlakpaaGreatDoor.pmfSteps
