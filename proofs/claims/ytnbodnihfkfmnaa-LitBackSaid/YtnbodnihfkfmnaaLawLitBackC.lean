/- LitBack answers true. -/
import Derived.Test.YtnbodnihfkfmnaaLitAwake
namespace Go.Proofs.Ytnbodnihfkfmnaa
open Go.RowKit

theorem from_index (l : Int) (h0 : l ≠ 0) (h1 : -100000 ≤ l) (h2 : l ≤ 100000) : fromV (indexV l) = l := by
  unfold indexV
  by_cases h : 0 < l
  · rw [if_pos (by omega), fromV, if_neg (by omega), if_pos (by omega)]; omega
  · rw [if_neg (by omega), if_pos (by omega), fromV, if_neg (by omega), if_neg (by omega)]; omega
theorem index_from (i : Int) (h : (fromV i != 0) = true) : indexV (fromV i) = i := by
  rw [bne_iff_ne] at h
  unfold fromV at h ⊢
  by_cases h1 : i < 0 ∨ 200000 ≤ i
  · rw [if_pos h1] at h; exact absurd rfl h
  · rw [if_neg h1]
    by_cases h2 : i % 2 = 0
    · rw [if_pos h2, indexV, if_pos (by omega)]; omega
    · rw [if_neg h2, indexV, if_neg (by omega), if_pos (by omega)]; omega
theorem of_one (l : Int) (h0 : l ≠ 0) (h1 : -100000 ≤ l) (h2 : l ≤ 100000) : (ofV [l] (varV l) == 0) = false := by
  have hv : 1 ≤ varV l ∧ varV l ≤ 100000 := by unfold varV; split <;> (try split) <;> omega
  rw [ofV_in _ _ hv.1 hv.2]
  cases hs : sideV l <;> simp [yesV, noV, hs]

set_option maxHeartbeats 1000000 in
theorem lawLitBack_c (l i : Int) (w : World) (_h0 : -9223372036854775808 ≤ l) (_h1 : l ≤ 9223372036854775807) (_h2 : -9223372036854775808 ≤ i) (_h3 : i ≤ 9223372036854775807) :
    Calls Try.prog 5 #[.int .i64 l, .int .i64 i] w fun e w' => e = .returned (.bool true) ∧ Ext w w' := by
  have L1 : ∀ w : World, IntSl (w.alloc (.cells #[.int .i64 l] 3)) (some ⟨w.heap.size, 0, none⟩) 1 [l] := fun w : World => intSl_lit w #[.int .i64 l] 3 [l] 1 rfl rfl (by decide) (by intro x hx; simp at hx; omega)
  have vb := varV_bd l
  by_cases h : l ≠ 0 ∧ -100000 ≤ l ∧ l ≤ 100000
  · obtain ⟨h4, h5, h6⟩ := h
    have e1 : checkV l 100000 = 0 := by rw [checkV, if_neg (by omega), if_pos (by omega)]
    have e2 := from_index l h4 h5 h6
    have e3 := of_one l h4 h5 h6
    have e4 : makeV (varV l) (decide (0 < l)) = l := by unfold makeV varV; by_cases h7 : 0 < l <;> simp [h7] <;> (repeat (first | omega | split))
    have e5 : makeE (varV l) = 0 := by unfold makeE varV; (repeat (first | omega | split))
    cases hi : (fromV i != 0)
    · go_enter Try.func5, Try.ntmps5
      go_wp2_with (first
        | (go_at_call 13; refine (litCheck_c _ _ _).mono ?_; rintro e w' ⟨rfl, rfl⟩)
        | (go_at_call 11; refine (make_c _ _ _).mono ?_; rintro e w' ⟨rfl, rfl⟩)
        | (go_at_call 18; refine (index_c _ _).mono ?_; rintro e w' ⟨rfl, rfl⟩)
        | (go_at_call 20; refine (from_c _ _).mono ?_; rintro e w' ⟨rfl, rfl⟩)
        | (go_at_call 15; refine (var_c _ _).mono ?_; rintro e w' ⟨rfl, rfl⟩)
        | (go_at_call 23; refine (of_c _ _ _ [l] _ _ (L1 _) (by omega)).mono ?_; rintro e w1 ⟨rfl, hx⟩)
        | (go_at_call 22; refine (law01awake_c _).mono ?_; rintro e w' ⟨rfl, hy⟩))
      go_ret
      exact ⟨rfl, by repeat (first | exact Ext.refl _ | refine Ext.trans ?_ (by assumption) | apply Ext.alloc)⟩
    · have e6 := index_from i hi
      go_enter Try.func5, Try.ntmps5
      go_wp2_with (first
        | (go_at_call 13; refine (litCheck_c _ _ _).mono ?_; rintro e w' ⟨rfl, rfl⟩)
        | (go_at_call 11; refine (make_c _ _ _).mono ?_; rintro e w' ⟨rfl, rfl⟩)
        | (go_at_call 18; refine (index_c _ _).mono ?_; rintro e w' ⟨rfl, rfl⟩)
        | (go_at_call 20; refine (from_c _ _).mono ?_; rintro e w' ⟨rfl, rfl⟩)
        | (go_at_call 15; refine (var_c _ _).mono ?_; rintro e w' ⟨rfl, rfl⟩)
        | (go_at_call 23; refine (of_c _ _ _ [l] _ _ (L1 _) (by omega)).mono ?_; rintro e w1 ⟨rfl, hx⟩)
        | (go_at_call 22; refine (law01awake_c _).mono ?_; rintro e w' ⟨rfl, hy⟩))
      go_ret
      exact ⟨rfl, by repeat (first | exact Ext.refl _ | refine Ext.trans ?_ (by assumption) | apply Ext.alloc)⟩
  · have e1 : checkV l 100000 = 10 := by rw [checkV, if_neg (by omega), if_neg h]
    clear h
    cases hi : (fromV i != 0)
    · go_enter Try.func5, Try.ntmps5
      go_wp2_with (first
        | (go_at_call 13; refine (litCheck_c _ _ _).mono ?_; rintro e w' ⟨rfl, rfl⟩)
        | (go_at_call 11; refine (make_c _ _ _).mono ?_; rintro e w' ⟨rfl, rfl⟩)
        | (go_at_call 18; refine (index_c _ _).mono ?_; rintro e w' ⟨rfl, rfl⟩)
        | (go_at_call 20; refine (from_c _ _).mono ?_; rintro e w' ⟨rfl, rfl⟩)
        | (go_at_call 15; refine (var_c _ _).mono ?_; rintro e w' ⟨rfl, rfl⟩)
        | (go_at_call 23; refine (of_c _ _ _ [l] _ _ (L1 _) (by omega)).mono ?_; rintro e w1 ⟨rfl, hx⟩)
        | (go_at_call 22; refine (law01awake_c _).mono ?_; rintro e w' ⟨rfl, hy⟩))
      go_ret
      exact ⟨rfl, by repeat (first | exact Ext.refl _ | refine Ext.trans ?_ (by assumption) | apply Ext.alloc)⟩
    · have e6 := index_from i hi
      go_enter Try.func5, Try.ntmps5
      go_wp2_with (first
        | (go_at_call 13; refine (litCheck_c _ _ _).mono ?_; rintro e w' ⟨rfl, rfl⟩)
        | (go_at_call 11; refine (make_c _ _ _).mono ?_; rintro e w' ⟨rfl, rfl⟩)
        | (go_at_call 18; refine (index_c _ _).mono ?_; rintro e w' ⟨rfl, rfl⟩)
        | (go_at_call 20; refine (from_c _ _).mono ?_; rintro e w' ⟨rfl, rfl⟩)
        | (go_at_call 15; refine (var_c _ _).mono ?_; rintro e w' ⟨rfl, rfl⟩)
        | (go_at_call 23; refine (of_c _ _ _ [l] _ _ (L1 _) (by omega)).mono ?_; rintro e w1 ⟨rfl, hx⟩)
        | (go_at_call 22; refine (law01awake_c _).mono ?_; rintro e w' ⟨rfl, hy⟩))
      go_ret
      exact ⟨rfl, by repeat (first | exact Ext.refl _ | refine Ext.trans ?_ (by assumption) | apply Ext.alloc)⟩
end Go.Proofs.Ytnbodnihfkfmnaa
