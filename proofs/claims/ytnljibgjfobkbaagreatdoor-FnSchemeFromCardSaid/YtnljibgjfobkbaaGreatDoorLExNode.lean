/- The walk of the law FnExactNodeText. -/
import Derived.Test.YtnljibgjfobkbaaGreatDoorTx2
namespace Go.Proofs.YtnljibgjfobkbaaGreatDoor
open Go.RowKit
attribute [local go_sem ↓] Go.wp_at_zero Go.wp_at_succ

end Go.Proofs.YtnljibgjfobkbaaGreatDoor
