/- Printed by a program of ours: functions as plain Lean, and what a call of each does. -/
import Derived.Test.YtnmglnglbdpjjaaGreatDoorUcX0
import Derived.Test.YtnmglnglbdpjjaaGreatDoorUcX3
import Derived.Test.YtnmglnglbdpjjaaGreatDoorUcX5
import Derived.Test.YtnmglnglbdpjjaaGreatDoorUcX12
import Derived.Test.YtnmglnglbdpjjaaGreatDoorUcH0
namespace Go.Proofs.YtnmglnglbdpjjaaGreatDoor.X
open Go.RowKit Go.Yw.PrintWords Go.Yw.PrintLast Go.Yw.PrintMore
attribute [local go_sem] Yld Yjd Yje Yie Yuc Yvc Yid Yhd
set_option linter.unusedVariables false
set_option linter.unusedSimpArgs false
end Go.Proofs.YtnmglnglbdpjjaaGreatDoor.X
