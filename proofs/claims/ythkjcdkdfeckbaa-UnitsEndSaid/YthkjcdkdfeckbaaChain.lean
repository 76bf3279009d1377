/- replevinlaw07.chain: three clauses. -/
import Derived.Test.YthkjcdkdfeckbaaSlRows
import Derived.Test.YthkjcdkdfeckbaaNew
namespace Go.Proofs.Ythkjcdkdfeckbaa
open Go.RowKit

/-- What chain hands back. -/
def RetRows (L : List (List Int)) (w : World) (e : Ending) (w' : World) : Prop := ∃ A n c, e = .returned (.slice A n c) ∧ RowsSl w' A n L ∧ Ext w w'

set_option maxHeartbeats 1000000 in
theorem chain_c (w : World) : Calls Try.prog 44 #[] w (RetRows [[1], [-1, 2], [-2, 3]] w) := by
  have L1 := intSl_newg #[.int .i64 1] 3 [1] 1 rfl rfl (by decide) (by decide)
  have L2 := intSl_newg #[.int .i64 (-1), .int .i64 2] 3 [-1, 2] 2 rfl rfl (by decide) (by decide)
  have L3 := intSl_newg #[.int .i64 (-2), .int .i64 3] 3 [-2, 3] 2 rfl rfl (by decide) (by decide)
  have H1 := Lib.hid L1
  have H2 := Lib.hid L2
  have H3 := Lib.hid L3
  clear L1 L2 L3
  go_enter Try.func44, Try.ntmps44
  go_wp2
  go_ret
  refine ⟨_, _, _, rfl, ⟨rfl, by decide, fun _ => ⟨_, rfl, fun j xs hj => ?_⟩⟩, by repeat (first | with_reducible exact Ext.refl _ | with_reducible apply Ext.alloc)⟩
  have a1 := (H1.out w _ rfl)
  have a2 := (H2.out (w.alloc (.cells #[.int .i64 1] 3)) (w.heap.size + 1) (by simp))
  have a3 := (H3.out ((w.alloc (.cells #[.int .i64 1] 3)).alloc (.cells #[.int .i64 (-1), .int .i64 2] 3)) (w.heap.size + 1 + 1) (by simp))
  generalize hW : ((w.alloc (.cells #[.int .i64 1] 3)).alloc (.cells #[.int .i64 (-1), .int .i64 2] 3)).alloc (.cells #[.int .i64 (-2), .int .i64 3] 3) = W at a3 ⊢
  have x2 : Ext ((w.alloc (.cells #[.int .i64 1] 3)).alloc (.cells #[.int .i64 (-1), .int .i64 2] 3)) W := by rw [← hW]; exact (Ext.refl _).alloc _
  have x1 : Ext (w.alloc (.cells #[.int .i64 1] 3)) W := ((Ext.refl _).alloc _).trans x2
  have hs : W.heap.size = w.heap.size + 1 + 1 + 1 := by rw [← hW]; simp
  have hB := fun (cs : Array Value) => Blk.new W 23 cs
  rw [hs] at hB
  match j, hj with
  | 0, hj =>
    obtain rfl : [1] = xs := Option.some.inj hj
    exact ⟨_, _, _, (hB _).cell 0, (a1.ext x1).ext ((Ext.refl _).alloc _)⟩
  | 1, hj =>
    obtain rfl : [-1, 2] = xs := Option.some.inj hj
    exact ⟨_, _, _, (hB _).cell 1, (a2.ext x2).ext ((Ext.refl _).alloc _)⟩
  | 2, hj =>
    obtain rfl : [-2, 3] = xs := Option.some.inj hj
    exact ⟨_, _, _, (hB _).cell 2, a3.ext ((Ext.refl _).alloc _)⟩
  | (j + 3), hj => simp at hj
end Go.Proofs.Ythkjcdkdfeckbaa
