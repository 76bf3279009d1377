import Derived.Test.YtdmempceikifeaaGreatA02
import Derived.Lib.SmallJoins
set_option maxRecDepth 100000
set_option maxHeartbeats 16000000
set_option linter.all false
namespace Go.Proofs.YtdmempceikifeaaGreat
open Go.RowKit Tryz
section
open Go.ChangeAt Go.ChangeShapes Go.Deep Go.WideShapes
section
variable{H:Type}{enc:TypeId×Value->H}{P:Program}{W:World}
end
end
