/- replevinlaw01.awake answers true. -/
import Derived.Test.YtnbodnihfkfmnaaLitL
namespace Go.Proofs.Ytnbodnihfkfmnaa
open Go.RowKit

/-- What a literal of numbers reads as, just after it has been laid. -/
theorem intSl_lit (w : World) (cs : Array Value) (T : TypeId) (xs : List Int) (n : Nat) (hn : xs.length = n) (hcs : cs.toList = xs.map (Value.int .i64)) (h2 : n ≤ 9223372036854775807) (h3 : ∀ x ∈ xs, -9223372036854775808 ≤ x ∧ x ≤ 9223372036854775807) :
    IntSl (w.alloc (.cells cs T)) (some ⟨w.heap.size, 0, none⟩) n xs := by
  refine ⟨hn, h2, h3, fun _ => ⟨_, rfl, fun j x hj => ?_⟩⟩
  have e : (⟨w.heap.size, 0, none⟩ : Addr).add j = ⟨w.heap.size, j, none⟩ := by unfold Addr.add; split <;> simp_all
  rw [e, cell_of_row (w.alloc (.cells cs T)) w.heap.size j cs T (0, 0) (heap_alloc_new w _)]
  rw [← Array.getElem?_toList, hcs]
  simp [hj]

set_option maxHeartbeats 1000000 in
theorem law01awake_c (w : World) : Calls Try.prog 22 #[] w fun e w' => e = .returned (.bool true) ∧ Ext w w' := by
  have a1 : makeV 3 false = -3 := by decide
  have a2 : makeE 3 = 0 := by decide
  have a3 : makeE 0 = 10 := by decide
  have a4 : indexV (-3) = 5 := by decide
  have a5 : fromV 4 = 3 := by decide
  have a6 : varV (-3) = 3 := by decide
  have a7 : negV (-3) = 3 := by decide
  have a8 : negV 0 = 0 := by decide
  have a9 : indexV 0 = -1 := by decide
  have b1 : checkV 4 3 = 10 := by decide
  have b2 : checkV (-3) 3 = 0 := by decide
  have b3 : checkV 1 (-1) = 2 := by decide
  have b4 : ofV [1, -2, 3, -3] 3 = 2 := by decide
  have b5 : ofV [1, -2] 2 = -1 := by decide
  have b6 : mostV [1, -7, 3] = 7 := by decide
  have L4 := fun w : World => intSl_lit w #[.int .i64 1, .int .i64 (-2), .int .i64 3, .int .i64 (-3)] 3 [1, -2, 3, -3] 4 rfl rfl (by decide) (by decide)
  have L2 := fun w : World => intSl_lit w #[.int .i64 1, .int .i64 (-2)] 3 [1, -2] 2 rfl rfl (by decide) (by decide)
  have L3 := fun w : World => intSl_lit w #[.int .i64 1, .int .i64 (-7), .int .i64 3] 3 [1, -7, 3] 3 rfl rfl (by decide) (by decide)
  go_enter Try.func22, Try.ntmps22
  go_wp2_with (first
    | (go_at_call 11; refine (make_c _ _ _).mono ?_; rintro e w' ⟨rfl, rfl⟩)
    | (go_at_call 18; refine (index_c _ _).mono ?_; rintro e w' ⟨rfl, rfl⟩)
    | (go_at_call 20; refine (from_c _ _).mono ?_; rintro e w' ⟨rfl, rfl⟩)
    | (go_at_call 15; refine (var_c _ _).mono ?_; rintro e w' ⟨rfl, rfl⟩)
    | (go_at_call 16; refine (neg_c _ _).mono ?_; rintro e w' ⟨rfl, rfl⟩)
    | (go_at_call 13; refine (litCheck_c _ _ _).mono ?_; rintro e w' ⟨rfl, rfl⟩)
    | (go_at_call 23; (with_reducible refine (of_c _ _ _ [1, -2, 3, -3] _ _ (L4 _) (by decide)).mono ?_); rintro e w1 ⟨rfl, hx1⟩)
    | (go_at_call 23; (with_reducible refine (of_c _ _ _ [1, -2] _ _ (L2 _) (by decide)).mono ?_); rintro e w2 ⟨rfl, hx2⟩)
    | (go_at_call 25; (with_reducible refine (most_c _ _ _ [1, -7, 3] _ (L3 _)).mono ?_); rintro e w' ⟨rfl, rfl⟩))
  go_ret
  exact ⟨rfl, by repeat (first | exact Ext.refl _ | refine Ext.trans ?_ (by assumption) | apply Ext.alloc)⟩
end Go.Proofs.Ytnbodnihfkfmnaa
