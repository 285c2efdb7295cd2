/- Parts of the proof of : LExNode. -/
import Derived.Test.YtammfhheibaeaaaGreatDoorQ06
set_option maxHeartbeats 20000000
set_option maxRecDepth 1000000
set_option linter.unusedSimpArgs false
set_option linter.unusedVariables false
namespace Go.Proofs.YtammfhheibaeaaaGreatDoor
section
open Go.RowKit
attribute [local go_sem ↓] Go.wp_at_zero Go.wp_at_succ
end
end Go.Proofs.YtammfhheibaeaaaGreatDoor
