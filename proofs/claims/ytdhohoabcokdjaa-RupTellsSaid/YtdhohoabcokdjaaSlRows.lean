/- A slice of slices of numbers that reads as a list of lists. -/
import Derived.Test.YtdhohoabcokdjaaOpen
set_option maxRecDepth 100000
namespace Go.Proofs.Ytdhohoabcokdjaa
open Go.RowKit Go.WideShapes Go.ChangeShapes Go.ChangeAt Go.Deep

/-- A slice whose elements are slices that read as the lists L. -/
def RowsSl (w : World) (A : Option Addr) (n : Nat) (L : List (List Int)) : Prop :=
  L.length = n ∧ n ≤ 9223372036854775807 ∧ (0 < n → ∃ ad, A = some ad ∧ ∀ (j : Nat) (xs : List Int), L[j]? = some xs → ∃ A' n' c', w.cell? (ad.add j) = some (.slice A' n' c') ∧ IntSl w A' n' xs)
section
variable {w w' : World} {A : Option Addr} {n : Nat} {L : List (List Int)}
theorem RowsSl.ext (h : RowsSl w A n L) (hx : Ext w w') : RowsSl w' A n L :=
  ⟨h.1, h.2.1, fun hn => let ⟨ad, e, hc⟩ := h.2.2 hn; ⟨ad, e, fun j xs hj => let ⟨A', n', c', h1, h2⟩ := hc j xs hj; ⟨A', n', c', hx.cell h1, h2.ext hx⟩⟩⟩
theorem RowsSl.nil (w : World) : RowsSl w none 0 [] := ⟨rfl, by decide, fun h => absurd h (by omega)⟩
theorem RowsSl.len (h : RowsSl w A n L) : n ≤ 9223372036854775807 := h.2.1
theorem RowsSl.at_ (h : RowsSl w A n L) {k : Nat} (hk : k < n) :
    ∃ ad xs A' n' c', A = some ad ∧ Hid (L[k]? = some xs) ∧ w.cell? (ad.add k) = some (.slice A' n' c') ∧ IntSl w A' n' xs := by
  obtain ⟨ad, e, hc⟩ := h.2.2 (by omega)
  have hl : k < L.length := by have := h.1; omega
  have hx : L[k]? = some L[k] := List.getElem?_eq_getElem hl
  obtain ⟨A', n', c', h1, h2⟩ := hc k _ hx
  exact ⟨ad, L[k], A', n', c', e, Lib.hid hx, h1, h2⟩
end

section
variable {H : Type} {enc : TypeId × Value → H} {P : Program} {W : World}

theorem open_rowsCs {t e i : TypeId} {base fuel : Nat} {cs : List Value} {x : DataW H × List MemPlace} (ht : P.underlying t = some (.slice e)) (he : P.underlying e = some (.slice i)) (hi : P.underlying i = some (.int .i64)) (ce : P.cellsOf e = 1) (ci : P.cellsOf i = 1)
    (hf : DataW.trod enc P W base (fun _ => true) true fuel t cs = some x) : ∃ A n c L, cs = [.slice A n c] ∧ RowsSl W A n L := by
  rcases open_slice1 ht ce hf with ⟨hcs, _⟩ | ⟨a, len, cap, m, fu, V, D, Pl, hcs, _, hl, hm, hmm, _, hcell⟩
  · exact ⟨none, 0, 0, [], hcs, RowsSl.nil W⟩
  · simp only [if_true] at hmm
    have key : ∀ j, j < len → ∃ xs A' n' c', W.cell? (a.add j) = some (.slice A' n' c') ∧ IntSl W A' n' xs := by
      intro j hj
      obtain ⟨h1, h2⟩ := hcell j (by omega)
      obtain ⟨A', n', c', xs, hv, hs⟩ := open_intCs he hi ci h2
      have hv' : V j = .slice A' n' c' := by simpa using hv
      exact ⟨xs, A', n', c', by rw [h1, hv'], hs⟩
    have key2 : ∀ j : Nat, ∃ xs : List Int, j < len → ∃ A' n' c', W.cell? (a.add j) = some (.slice A' n' c') ∧ IntSl W A' n' xs := by
      intro j
      by_cases hj : j < len
      · obtain ⟨xs, A', n', c', h1, h2⟩ := key j hj
        exact ⟨xs, fun _ => ⟨A', n', c', h1, h2⟩⟩
      · exact ⟨[], fun h => absurd h hj⟩
    obtain ⟨F, hF⟩ := Classical.axiomOfChoice key2
    refine ⟨some a, len, cap, (List.range len).map F, hcs, by simp, by unfold maxLen at hm; omega, fun _ => ⟨a, rfl, fun j xs hj => ?_⟩⟩
    have hjl : j < len := by
      have := (List.getElem?_eq_some_iff.1 hj).1
      simpa using this
    simp [hjl] at hj
    subst hj
    exact hF j hjl

theorem open_rowsSl {t e i : TypeId} {base : Nat} {v : Value} {d : DataW H} {p : List MemPlace} (ht : P.underlying t = some (.slice e)) (he : P.underlying e = some (.slice i)) (hi : P.underlying i = some (.int .i64)) (ce : P.cellsOf e = 1) (ci : P.cellsOf i = 1)
    (hval : Value.okWide P W .any base t v) (hd : DataW.Trod enc P W 0 (fun _ => true) true t v d p) : ∃ A n c L, v = .slice A n c ∧ RowsSl W A n L := by
  obtain ⟨a0, len, cap, rfl⟩ := okWide_slice ht hval
  obtain ⟨fuel, hf⟩ := hd
  obtain ⟨A, n, c, L, hcs, h⟩ := open_rowsCs ht he hi ce ci hf
  simp [Value.cells] at hcs
  obtain ⟨rfl, rfl, rfl⟩ := hcs
  exact ⟨_, _, _, _, rfl, h⟩
end
end Go.Proofs.Ytdhohoabcokdjaa
