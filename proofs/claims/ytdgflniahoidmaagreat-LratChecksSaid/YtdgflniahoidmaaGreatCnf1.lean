/- Layer 4 (cnf): does a formula hold; its value. And the reference's. -/
import Derived.Test.YtdgflniahoidmaaGreatUnits1
import Derived.Test.YtdgflniahoidmaaGreatFirst
import Derived.Laws.EntriesVeiled
set_option maxRecDepth 100000
namespace Go.Proofs.YtdgflniahoidmaaGreat
open Go.RowKit

theorem side_pos {x : Int} (h : x ≤ 100000) : sideV x = decide (0 < x) := by unfold sideV; rw [decide_eq_true h, Bool.and_true]

def holdsF (v : Int) (L : List (List Int)) (m : List Bool) : Bool := decide ((m.length : Int) = v) && decide (firstV L m < 0)
theorem firstV_cases (L : List (List Int)) (m : List Bool) : firstV L m = -1 ∨ 0 ≤ firstV L m := by have := (idxP_bd (fun c => !holdsV c m) L).1; unfold firstV; omega

/-- A formula's value: the least of its clauses'. -/
def statusV (l : List Int) (L : List (List Int)) : Int := L.foldl (fun a c => min a (clauseV l c)) 1
theorem statusV_snoc (l : List Int) (L : List (List Int)) (c : List Int) : statusV l (L ++ [c]) = min (statusV l L) (clauseV l c) := by unfold statusV; rw [List.foldl_append]; rfl
theorem statusV_bd (l : List Int) : ∀ (L : List (List Int)) (a : Int), -1 ≤ a → a ≤ 1 → -1 ≤ L.foldl (fun a c => min a (clauseV l c)) a ∧ L.foldl (fun a c => min a (clauseV l c)) a ≤ 1
  | [], a, h1, h2 => ⟨h1, h2⟩
  | c :: L, a, h1, h2 => by
    rw [List.foldl_cons]
    have := clauseV_bd l c
    exact statusV_bd l L _ (by omega) (by omega)


end Go.Proofs.YtdgflniahoidmaaGreat
