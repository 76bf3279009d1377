/- Layer 9 (rat): Flip, Show. -/
import Derived.Test.YtdgflniahoidmaaGreatRat1
import Derived.Test.YtdgflniahoidmaaGreatStill
set_option maxRecDepth 100000
namespace Go.Proofs.YtdgflniahoidmaaGreat
open Go.RowKit

def flip1 (mm : List Bool) (x : Int) : List Bool := if 1 ≤ varV x ∧ varV x ≤ mm.length then mm.set (varV x - 1).toNat (decide (0 < x)) else mm
def flipV (m : List Bool) (xs : List Int) : List Bool := xs.foldl flip1 m
theorem flipV_snoc (m : List Bool) (xs : List Int) (x : Int) : flipV m (xs ++ [x]) = flip1 (flipV m xs) x := by simp [flipV]
theorem flip1_len (mm : List Bool) (x : Int) : (flip1 mm x).length = mm.length := by unfold flip1; split <;> simp
theorem flipV_len : ∀ (xs : List Int) (m : List Bool), (flipV m xs).length = m.length
  | [], _ => rfl
  | x :: xs, m => (flipV_len xs (flip1 m x)).trans (flip1_len m x)


end Go.Proofs.YtdgflniahoidmaaGreat
