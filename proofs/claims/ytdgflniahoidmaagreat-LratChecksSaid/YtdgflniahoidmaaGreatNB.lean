/- Slices of truths that a loop writes into. -/
import Derived.Test.YtdgflniahoidmaaGreatSl
import Derived.Test.YtdgflniahoidmaaGreatApp
set_option maxRecDepth 100000
namespace Go.Proofs.YtdgflniahoidmaaGreat
open Go.RowKit

theorem IntSl.far {w : World} {A : Option Addr} {n : Nat} {xs : List Int} (h : IntSl w A n xs) {p : Addr} (u : Value) (hp : ∀ x, w.cell? p ≠ some (.int .i64 x)) : IntSl (w.setCell p u) A n xs := by
  refine ⟨h.1, h.2.1, h.2.2.1, fun hn => ?_⟩
  obtain ⟨ad, e, hc⟩ := h.2.2.2 hn
  refine ⟨ad, e, fun j x hj => ?_⟩
  have h1 := hc j x hj
  by_cases hne : p = ad.add j
  · rw [← hne] at h1; exact absurd h1 (hp x)
  · rw [World.cell?_setCell_other (h := hne)]; exact h1


end Go.Proofs.YtdgflniahoidmaaGreat
