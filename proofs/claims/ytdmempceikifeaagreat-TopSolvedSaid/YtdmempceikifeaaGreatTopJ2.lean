import Derived.JoinedOf
import Derived.Test.YtdmempceikifeaaGreatRows
set_option maxRecDepth 100000
set_option maxHeartbeats 16000000
set_option linter.all false
namespace Go.Proofs.YtdmempceikifeaaGreat
theorem AcT:(Rows.topSolvedRow.recurses==Tryz.prog.recurses 3)=true:=by kernel_rfl
theorem Aim:(Rows.topSolvedRow.named==Tryz.prog.varsNamed 3)=true:=by kernel_rfl
