/- Openers of arguments: rows with their own room; a formula by value with them. -/
import Derived.Test.YtdgflniahoidmaaGreatOpen2
import Derived.Test.YtdgflniahoidmaaGreatRCk
set_option maxRecDepth 100000
namespace Go.Proofs.YtdgflniahoidmaaGreat
open Go.RowKit Go.WideShapes Go.ChangeShapes Go.ChangeAt Go.Deep

section
variable {H : Type} {enc : TypeId × Value → H} {P : Program} {W : World}

theorem open_intCsC {t e : TypeId} {base fuel : Nat} {cs : List Value} {x : DataW H × List MemPlace} (ht : P.underlying t = some (.slice e)) (he : P.underlying e = some (.int .i64)) (ce : P.cellsOf e = 1)
    (hf : DataW.trod enc P W base (fun _ => true) true fuel t cs = some x) : ∃ A n c xs, cs = [.slice A n c] ∧ IntSl W A n xs ∧ n ≤ c := by
  obtain ⟨A, n, c, xs, hcs, h⟩ := open_intCs ht he ce hf
  refine ⟨A, n, c, xs, hcs, h, ?_⟩
  rcases open_ints ht he ce hf with ⟨hc2, _⟩ | ⟨a, len, cap, zs, hc2, _, hl, _⟩
  · rw [hcs] at hc2; simp at hc2; omega
  · rw [hcs] at hc2; simp at hc2; omega

theorem open_rowsCsW {t e i : TypeId} {base fuel : Nat} {cs : List Value} {x : DataW H × List MemPlace} (ht : P.underlying t = some (.slice e)) (he : P.underlying e = some (.slice i)) (hi : P.underlying i = some (.int .i64)) (ce : P.cellsOf e = 1) (ci : P.cellsOf i = 1)
    (hf : DataW.trod enc P W base (fun _ => true) true fuel t cs = some x) : ∃ A n c L, cs = [.slice A n c] ∧ RowsW W A n L ∧ n ≤ c := by
  rcases open_slice1 ht ce hf with ⟨hcs, _⟩ | ⟨a, len, cap, m, fu, V, D, Pl, hcs, _, hl, hm, hmm, _, hcell⟩
  · exact ⟨none, 0, 0, [], hcs, RowsW.nil W, Nat.le_refl _⟩
  · simp only [if_true] at hmm
    have key2 : ∀ j : Nat, ∃ xs : List Int, j < len → ∃ A' n' c', W.cell? (a.add j) = some (.slice A' n' c') ∧ IntSl W A' n' xs ∧ n' ≤ c' := by
      intro j
      by_cases hj : j < len
      · obtain ⟨h1, h2⟩ := hcell j (by omega)
        obtain ⟨A', n', c', xs, hv, hs, hnc⟩ := open_intCsC he hi ci h2
        have hv' : V j = .slice A' n' c' := by simpa using hv
        exact ⟨xs, fun _ => ⟨A', n', c', by rw [h1, hv'], hs, hnc⟩⟩
      · exact ⟨[], fun h => absurd h hj⟩
    obtain ⟨F, hF⟩ := Classical.axiomOfChoice key2
    refine ⟨some a, len, cap, (List.range len).map F, hcs, ⟨by simp, by unfold maxLen at hm; omega, fun _ => ⟨a, rfl, fun j xs hj => ?_⟩⟩, by omega⟩
    have hjl : j < len := by
      have := (List.getElem?_eq_some_iff.1 hj).1
      simpa using this
    simp [hjl] at hj
    subst hj
    exact hF j hjl

theorem open_formulaW {t : TypeId} {f0 f1 : Field} {e i : TypeId} {base : Nat} {v : Value} {d : DataW H} {p : List MemPlace} (ht : P.underlying t = some (.struct #[f0, f1])) (hone : oneCellFields P #[f0, f1] = true) (hC : P.cellsOf t = 2)
    (h0 : P.underlying f0.type = some (.int .i64)) (h1 : P.underlying f1.type = some (.slice e)) (he : P.underlying e = some (.slice i)) (hi : P.underlying i = some (.int .i64)) (ce : P.cellsOf e = 1) (ci : P.cellsOf i = 1)
    (hval : Value.okWide P W .any base t v) (hd : DataW.Trod enc P W 0 (fun _ => true) true t v d p) :
    ∃ x A n c L, v = .agg #[.int .i64 x, .slice A n c] ∧ (-9223372036854775808 ≤ x ∧ x ≤ 9223372036854775807) ∧ RowsW W A n L ∧ n ≤ c := by
  obtain ⟨v0, v1, y0, y1, n, rfl, _, _, g0, g1⟩ := Go.Joins.open_agg2 ht hone hC hval hd
  obtain ⟨x, e0, _, wx⟩ := DataW.trod_int h0 g0
  obtain ⟨A, m, c, L, e1, hL, hmc⟩ := open_rowsCsW h1 he hi ce ci g1
  obtain rfl : v0 = .int .i64 x := by simpa using e0
  obtain rfl : v1 = .slice A m c := by simpa using e1
  exact ⟨x, A, m, c, L, rfl, wf_i64_bd wx, hL, hmc⟩
end
end Go.Proofs.YtdgflniahoidmaaGreat
