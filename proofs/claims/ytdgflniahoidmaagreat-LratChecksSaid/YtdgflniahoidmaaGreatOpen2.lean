/- Openers of arguments: rows with their room; a formula by value. -/
import Derived.Test.YtdgflniahoidmaaGreatSl
import Derived.Lib.SmallJoins
set_option maxRecDepth 100000
namespace Go.Proofs.YtdgflniahoidmaaGreat
open Go.RowKit Go.WideShapes Go.ChangeShapes Go.ChangeAt Go.Deep

section
variable {H : Type} {enc : TypeId × Value → H} {P : Program} {W : World}

theorem open_rowsCsC {t e i : TypeId} {base fuel : Nat} {cs : List Value} {x : DataW H × List MemPlace} (ht : P.underlying t = some (.slice e)) (he : P.underlying e = some (.slice i)) (hi : P.underlying i = some (.int .i64)) (ce : P.cellsOf e = 1) (ci : P.cellsOf i = 1)
    (hf : DataW.trod enc P W base (fun _ => true) true fuel t cs = some x) : ∃ A n c L, cs = [.slice A n c] ∧ RowsSl W A n L ∧ n ≤ c := by
  obtain ⟨A, n, c, L, hcs, h⟩ := open_rowsCs ht he hi ce ci hf
  refine ⟨A, n, c, L, hcs, h, ?_⟩
  rcases open_slice1 ht ce hf with ⟨hc2, _⟩ | ⟨a, len, cap, m, fu, V, D, Pl, hc2, _, hl, _⟩
  · rw [hcs] at hc2; simp at hc2; omega
  · rw [hcs] at hc2; simp at hc2; omega

theorem open_rowsSlC {t e i : TypeId} {base : Nat} {v : Value} {d : DataW H} {p : List MemPlace} (ht : P.underlying t = some (.slice e)) (he : P.underlying e = some (.slice i)) (hi : P.underlying i = some (.int .i64)) (ce : P.cellsOf e = 1) (ci : P.cellsOf i = 1)
    (hval : Value.okWide P W .any base t v) (hd : DataW.Trod enc P W 0 (fun _ => true) true t v d p) : ∃ A n c L, v = .slice A n c ∧ RowsSl W A n L ∧ n ≤ c := by
  obtain ⟨a0, len, cap, rfl⟩ := okWide_slice ht hval
  obtain ⟨fuel, hf⟩ := hd
  obtain ⟨A, n, c, L, hcs, h⟩ := open_rowsCsC ht he hi ce ci hf
  simp [Value.cells] at hcs
  obtain ⟨rfl, rfl, rfl⟩ := hcs
  exact ⟨_, _, _, _, rfl, h⟩

theorem open_formula {t : TypeId} {f0 f1 : Field} {e i : TypeId} {base : Nat} {v : Value} {d : DataW H} {p : List MemPlace} (ht : P.underlying t = some (.struct #[f0, f1])) (hone : oneCellFields P #[f0, f1] = true) (hC : P.cellsOf t = 2)
    (h0 : P.underlying f0.type = some (.int .i64)) (h1 : P.underlying f1.type = some (.slice e)) (he : P.underlying e = some (.slice i)) (hi : P.underlying i = some (.int .i64)) (ce : P.cellsOf e = 1) (ci : P.cellsOf i = 1)
    (hval : Value.okWide P W .any base t v) (hd : DataW.Trod enc P W 0 (fun _ => true) true t v d p) :
    ∃ x A n c L, v = .agg #[.int .i64 x, .slice A n c] ∧ (-9223372036854775808 ≤ x ∧ x ≤ 9223372036854775807) ∧ RowsSl W A n L ∧ n ≤ c := by
  obtain ⟨v0, v1, y0, y1, n, rfl, _, _, g0, g1⟩ := Go.Joins.open_agg2 ht hone hC hval hd
  obtain ⟨x, e0, _, wx⟩ := DataW.trod_int h0 g0
  obtain ⟨A, m, c, L, e1, hL, hmc⟩ := open_rowsCsC h1 he hi ce ci g1
  obtain rfl : v0 = .int .i64 x := by simpa using e0
  obtain rfl : v1 = .slice A m c := by simpa using e1
  exact ⟨x, A, m, c, L, rfl, wf_i64_bd wx, hL, hmc⟩
end
end Go.Proofs.YtdgflniahoidmaaGreat
