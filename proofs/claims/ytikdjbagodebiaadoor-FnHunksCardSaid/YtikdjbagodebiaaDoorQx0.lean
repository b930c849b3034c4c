/- The evaluator of the claim and what it says, part Qx0 (several texts in one). -/
import Derived.Test.YtikdjbagodebiaaDoorQo0
import Derived.Test.YtikdjbagodebiaaDoorQk0
import Derived.Test.YtikdjbagodebiaaDoorQr0
import Derived.WalkKit
import Derived.OwnWalkIn
import Derived.TacticsInMore
import Derived.LoopNIn
import Derived.LoopIn
namespace Go.Qz
open Go.Proofs Go.RowKit Go.Shelf
end Go.Qz
