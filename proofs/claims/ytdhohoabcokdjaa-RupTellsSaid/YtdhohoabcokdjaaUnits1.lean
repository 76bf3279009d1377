/- Layer 7 (units): an assignment that grows, and what a clause's literals are in it. -/
import Derived.Test.YtdhohoabcokdjaaAssign4
set_option maxRecDepth 100000
namespace Go.Proofs.Ytdhohoabcokdjaa
open Go.RowKit Go.Maps

/-- What look tells. -/
def lookH (l c : List Int) : Bool := decide (0 < cnV l c 1)
def lookO (l c : List Int) : Int := if lookH l c then 0 else openV l c
def lookM (l c : List Int) : Int := if lookH l c then 0 else min 2 (cnV l c 0)


end Go.Proofs.Ytdhohoabcokdjaa
