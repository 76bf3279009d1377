/- Equality of arrays of three numbers. -/
import Derived.Test.YthkjcdkdfeckbaaBase
import Derived.ChangeKeysEq
namespace Go.Proofs.Ythkjcdkdfeckbaa
open Go.RowKit

theorem infoInt3 : ∃ i, Try.prog.info? 3 = some i := Option.isSome_iff_exists.1 (by kernel_rfl)
theorem cells3 : Try.prog.cellsOf 3 = 1 := by kernel_rfl
theorem eq3 (w : World) (a b c : Int) : (Op.equalIn 10000 46 (.agg #[.int .i64 a, .int .i64 b, .int .i64 c]) (.agg #[.int .i64 a, .int .i64 b, .int .i64 c])).run Try.prog w = .ok true w := by
  obtain ⟨i, hi⟩ := infoInt3
  rw [show (10000 : Nat) = 9999 + 1 from rfl, run_equalIn_array w 9999 _ _ Try.underlying46 hi, cells3]
  have hu := Try.underlying3
  have hp := fun (xs : Array Value) (k : Nat) (n : Int) (W : World) (h : xs[k]? = some (.int .i64 n)) => (show (part 3 xs k).run Try.prog W = .ok (.int .i64 n) W from by simp [part, h])
  have he := fun (x : Int) (W : World) => run_equalIn_int (P := Try.prog) W 9998 3 .i64 .i64 x x hu
  simp [List.range, List.range.loop, Op.eqItems, hp _ 0 a, hp _ 1 b, hp _ 2 c, he]
end Go.Proofs.Ythkjcdkdfeckbaa
