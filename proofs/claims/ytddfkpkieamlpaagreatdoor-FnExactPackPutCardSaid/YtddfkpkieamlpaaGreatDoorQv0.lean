import Derived.Test.YtddfkpkieamlpaaGreatDoorQt0
import Derived.Deep.DeepHandedRow
import Derived.Deep.DeepWitnessRowRef
namespace Go.Qz
open Go.ChangeShapes Go.WideShapes Go.ChangeAt Go.RowKit
section
variable{P:Program}{W:World}
end
end Go.Qz
