import Derived.JoinedOf
import Derived.Test.YtdmempceikifeaaGreatRows
set_option maxRecDepth 100000
set_option maxHeartbeats 16000000
set_option linter.all false
namespace Go.Proofs.YtdmempceikifeaaGreat
theorem YN:(Rows.topSolvedRow.inPlace==Tryz.prog.inPlace 3)=true:=by kernel_rfl
theorem YO:(Rows.topSolvedRow.unfollowed==Tryz.prog.unfollowed 3)=true:=by kernel_rfl
