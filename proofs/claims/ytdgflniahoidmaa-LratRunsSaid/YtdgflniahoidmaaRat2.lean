/- Layer 9 (rat): Flip, Show. -/
import Derived.Test.YtdgflniahoidmaaRat1
import Derived.Test.YtdgflniahoidmaaStill
set_option maxRecDepth 100000
namespace Go.Proofs.Ytdgflniahoidmaa
open Go.RowKit

/-! ### Flip -/
theorem run_eql_slB_nil (A : Option Addr) (n c : Nat) (w : World) : (binOp .eql 26 (.slice A n c) (.slice none 0 0)).run Try.prog w = .ok (.bool A.isNone) w := by
  simp only [binOp]
  simp [run_equal_slice_nil w 26 4 A n c Try.underlying26]
/-- It hands back truths of its own. -/
def RetNB (m : List Bool) (w : World) (e : Ending) (w' : World) : Prop := ∃ A c, e = .returned (.slice A m.length c) ∧ NB w' w.heap.size A m.length m ∧ Ext w w'

def flip1 (mm : List Bool) (x : Int) : List Bool := if 1 ≤ varV x ∧ varV x ≤ mm.length then mm.set (varV x - 1).toNat (decide (0 < x)) else mm
def flipV (m : List Bool) (xs : List Int) : List Bool := xs.foldl flip1 m
theorem flipV_snoc (m : List Bool) (xs : List Int) (x : Int) : flipV m (xs ++ [x]) = flip1 (flipV m xs) x := by simp [flipV]
theorem flip1_len (mm : List Bool) (x : Int) : (flip1 mm x).length = mm.length := by unfold flip1; split <;> simp
theorem flipV_len : ∀ (xs : List Int) (m : List Bool), (flipV m xs).length = m.length
  | [], _ => rfl
  | x :: xs, m => (flipV_len xs (flip1 m x)).trans (flip1_len m x)


end Go.Proofs.Ytdgflniahoidmaa
