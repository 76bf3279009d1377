/- How a Case (a struct of four slices) is opened. -/
import Derived.Test.YtdhohoabcokdjaaOpen2
import Derived.Lib.SmallJoins
set_option maxRecDepth 100000
namespace Go.Proofs.Ytdhohoabcokdjaa
open Go.RowKit Go.WideShapes Go.ChangeShapes Go.ChangeAt Go.Deep

section
variable {H : Type} {enc : TypeId × Value → H} {P : Program} {W : World}
theorem open_case9 {t : TypeId} {f0 f1 f2 f3 : Field} {e i : TypeId} {base : Nat} {v : Value} {d : DataW H} {p : List MemPlace} (ht : P.underlying t = some (.struct #[f0, f1, f2, f3])) (hone : oneCellFields P #[f0, f1, f2, f3] = true) (hC : P.cellsOf t = 4)
    (h0 : P.underlying f0.type = some (.slice e)) (h1 : P.underlying f1.type = some (.slice i)) (h2 : P.underlying f2.type = some (.slice i)) (h3 : P.underlying f3.type = some (.slice e))
    (he : P.underlying e = some (.slice i)) (hi : P.underlying i = some (.int .i64)) (ce : P.cellsOf e = 1) (ci : P.cellsOf i = 1)
    (hval : Value.okWide P W .any base t v) (hd : DataW.Trod enc P W 0 (fun _ => true) true t v d p) :
    ∃ A n c L A1 n1 c1 cl A2 n2 c2 ah A3 n3 c3 each, v = .agg #[.slice A n c, .slice A1 n1 c1, .slice A2 n2 c2, .slice A3 n3 c3] ∧ RowsSl W A n L ∧ IntSl W A1 n1 cl ∧ IntSl W A2 n2 ah ∧ RowsSl W A3 n3 each := by
  obtain ⟨v0, v1, v2, v3, y0, y1, y2, y3, n, rfl, _, _, g0, g1, g2, g3⟩ := Go.Joins.open_agg4 ht hone hC hval hd
  obtain ⟨A, m, c, L, e0, hL⟩ := open_rowsCs h0 he hi ce ci g0
  obtain ⟨A1, n1, c1, cl, e1, hcl⟩ := open_intCs h1 hi ci g1
  obtain ⟨A2, n2, c2, ah, e2, hah⟩ := open_intCs h2 hi ci g2
  obtain ⟨A3, n3, c3, each, e3, hea⟩ := open_rowsCs h3 he hi ce ci g3
  obtain rfl : v0 = .slice A m c := by simpa using e0
  obtain rfl : v1 = .slice A1 n1 c1 := by simpa using e1
  obtain rfl : v2 = .slice A2 n2 c2 := by simpa using e2
  obtain rfl : v3 = .slice A3 n3 c3 := by simpa using e3
  exact ⟨_, _, _, _, _, _, _, _, _, _, _, _, _, _, _, _, rfl, hL, hcl, hah, hea⟩
end
end Go.Proofs.Ytdhohoabcokdjaa
