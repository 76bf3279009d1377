/- LitNeg answers true. -/
import Derived.Test.YtnbodnihfkfmnaaLitAwake
namespace Go.Proofs.Ytnbodnihfkfmnaa
open Go.RowKit

theorem indexV_bd (l : Int) : -1 ≤ indexV l ∧ indexV l ≤ 199999 := by unfold indexV; repeat (first | omega | split)
theorem check_is (a : Int) : (checkV a 100000 = 0 ∧ a ≠ 0 ∧ -100000 ≤ a ∧ a ≤ 100000) ∨ checkV a 100000 = 10 := by
  by_cases h : a ≠ 0 ∧ -100000 ≤ a ∧ a ≤ 100000
  · left; exact ⟨by rw [checkV, if_neg (by omega), if_pos (by omega)], h⟩
  · right; rw [checkV, if_neg (by omega), if_neg h]

set_option maxHeartbeats 2000000 in
theorem lawLitNeg_c (a b : Int) (w : World) (_h0 : -9223372036854775808 ≤ a) (_h1 : a ≤ 9223372036854775807) (_h2 : -9223372036854775808 ≤ b) (_h3 : b ≤ 9223372036854775807) :
    Calls Try.prog 6 #[.int .i64 a, .int .i64 b] w fun e w' => e = .returned (.bool true) ∧ Ext w w' := by
  rcases check_is a with ⟨e1, a1, a2, a3⟩ | e1
  · rcases check_is b with ⟨e2, b1, b2, b3⟩ | e2
    · have e3 : negV a = -a := by rw [negV, if_pos (by omega)]
      have e4 : negV (-a) = a := by rw [negV, if_pos (by omega)]; omega
      have e5 : (-a == a) = false := by rw [beq_eq_false_iff_ne]; omega
      have e6 : varV (-a) = varV a := by unfold varV; repeat (first | omega | split)
      have ia := indexV_bd a
      have ina := indexV_bd (-a)
      have ia0 : 0 ≤ indexV a := by unfold indexV; repeat (first | omega | split)
      have ina0 : 0 ≤ indexV (-a) := by unfold indexV; repeat (first | omega | split)
      have e7 : (indexV a / 2 != indexV (-a) / 2) = false := by rw [bne_eq_false_iff_eq]; unfold indexV; repeat (first | omega | split)
      have e8 : (indexV a == indexV (-a)) = false := by rw [beq_eq_false_iff_ne]; unfold indexV; repeat (first | omega | split)
      by_cases h : b = a
      · subst h
        go_enter Try.func6, Try.ntmps6
        go_wp2_with (first
          | (go_at_call 13; refine (litCheck_c _ _ _).mono ?_; rintro e w' ⟨rfl, rfl⟩)
          | (go_at_call 16; refine (neg_c _ _).mono ?_; rintro e w' ⟨rfl, rfl⟩)
          | (go_at_call 18; refine (index_c _ _).mono ?_; rintro e w' ⟨rfl, rfl⟩)
          | (go_at_call 15; refine (var_c _ _).mono ?_; rintro e w' ⟨rfl, rfl⟩)
          | (go_at_call 22; refine (law01awake_c _).mono ?_; rintro e w' ⟨rfl, hy⟩))
        all_goals
          go_ret
          exact ⟨rfl, by repeat (first | exact Ext.refl _ | refine Ext.trans ?_ (by assumption) | apply Ext.alloc)⟩
      · have e9 : (b == a) = false := by simpa using h
        have e10 : (a == b) = false := by simpa using fun e => h e.symm
        have e11 : (indexV a == indexV b) = false := by rw [beq_eq_false_iff_ne]; unfold indexV; repeat (first | omega | split)
        by_cases h' : b = -a
        · subst h'
          go_enter Try.func6, Try.ntmps6
          go_wp2_with (first
            | (go_at_call 13; refine (litCheck_c _ _ _).mono ?_; rintro e w' ⟨rfl, rfl⟩)
            | (go_at_call 16; refine (neg_c _ _).mono ?_; rintro e w' ⟨rfl, rfl⟩)
            | (go_at_call 18; refine (index_c _ _).mono ?_; rintro e w' ⟨rfl, rfl⟩)
            | (go_at_call 15; refine (var_c _ _).mono ?_; rintro e w' ⟨rfl, rfl⟩)
            | (go_at_call 22; refine (law01awake_c _).mono ?_; rintro e w' ⟨rfl, hy⟩))
          all_goals
            go_ret
            exact ⟨rfl, by repeat (first | exact Ext.refl _ | refine Ext.trans ?_ (by assumption) | apply Ext.alloc)⟩
        · have e12 : (b == -a) = false := by simpa using h'
          have e13 : (varV a == varV b) = false := by rw [beq_eq_false_iff_ne]; unfold varV; repeat (first | omega | split)
          clear h h'
          go_enter Try.func6, Try.ntmps6
          go_wp2_with (first
            | (go_at_call 13; refine (litCheck_c _ _ _).mono ?_; rintro e w' ⟨rfl, rfl⟩)
            | (go_at_call 16; refine (neg_c _ _).mono ?_; rintro e w' ⟨rfl, rfl⟩)
            | (go_at_call 18; refine (index_c _ _).mono ?_; rintro e w' ⟨rfl, rfl⟩)
            | (go_at_call 15; refine (var_c _ _).mono ?_; rintro e w' ⟨rfl, rfl⟩)
            | (go_at_call 22; refine (law01awake_c _).mono ?_; rintro e w' ⟨rfl, hy⟩))
          all_goals
            go_ret
            exact ⟨rfl, by repeat (first | exact Ext.refl _ | refine Ext.trans ?_ (by assumption) | apply Ext.alloc)⟩
    · clear a1 a2 a3
      go_enter Try.func6, Try.ntmps6
      go_wp2_with (first
        | (go_at_call 13; refine (litCheck_c _ _ _).mono ?_; rintro e w' ⟨rfl, rfl⟩)
        | (go_at_call 16; refine (neg_c _ _).mono ?_; rintro e w' ⟨rfl, rfl⟩)
        | (go_at_call 18; refine (index_c _ _).mono ?_; rintro e w' ⟨rfl, rfl⟩)
        | (go_at_call 15; refine (var_c _ _).mono ?_; rintro e w' ⟨rfl, rfl⟩)
        | (go_at_call 22; refine (law01awake_c _).mono ?_; rintro e w' ⟨rfl, hy⟩))
      all_goals
        go_ret
        exact ⟨rfl, by repeat (first | exact Ext.refl _ | refine Ext.trans ?_ (by assumption) | apply Ext.alloc)⟩
  · rcases check_is b with ⟨e2, b1, b2, b3⟩ | e2
    all_goals
      go_enter Try.func6, Try.ntmps6
      go_wp2_with (first
        | (go_at_call 13; refine (litCheck_c _ _ _).mono ?_; rintro e w' ⟨rfl, rfl⟩)
        | (go_at_call 16; refine (neg_c _ _).mono ?_; rintro e w' ⟨rfl, rfl⟩)
        | (go_at_call 18; refine (index_c _ _).mono ?_; rintro e w' ⟨rfl, rfl⟩)
        | (go_at_call 15; refine (var_c _ _).mono ?_; rintro e w' ⟨rfl, rfl⟩)
        | (go_at_call 22; refine (law01awake_c _).mono ?_; rintro e w' ⟨rfl, hy⟩))
      all_goals
        go_ret
        exact ⟨rfl, by repeat (first | exact Ext.refl _ | refine Ext.trans ?_ (by assumption) | apply Ext.alloc)⟩
end Go.Proofs.Ytnbodnihfkfmnaa
