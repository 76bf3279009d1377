/- replevinref04.First, and a slice of one element. -/
import Derived.Test.YtdgflniahoidmaaGreatSl
import Derived.Test.YtdgflniahoidmaaGreatAssign5
import Derived.Test.YtdgflniahoidmaaGreatAssign1
import Derived.Test.YtdgflniahoidmaaGreatApp
set_option maxRecDepth 100000
namespace Go.Proofs.YtdgflniahoidmaaGreat
open Go.RowKit

def firstV (L : List (List Int)) (m : List Bool) : Int := idxP (fun c => !holdsV c m) L
theorem firstV_neg {L : List (List Int)} {m : List Bool} : firstV L m < 0 ↔ ∀ c ∈ L, holdsV c m = true := by
  unfold firstV idxP
  cases e : L.findIdx? (fun c => !holdsV c m) with
  | none =>
    rw [List.findIdx?_eq_none_iff] at e
    simp at e
    exact ⟨fun _ => e, fun _ => (by decide : (-1 : Int) < 0)⟩
  | some k =>
    rw [List.findIdx?_eq_some_iff_getElem] at e
    obtain ⟨hk, hp, _⟩ := e
    constructor
    · intro h; have h' : (k : Int) < 0 := h; omega
    · intro h; have := h _ (List.getElem_mem hk); simp [this] at hp

theorem holdsV_one (x : Int) (m : List Bool) : holdsV [x] m = litHolds m x := by simp [holdsV]
end Go.Proofs.YtdgflniahoidmaaGreat
