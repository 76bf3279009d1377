/- LitTells answers true. -/
import Derived.Test.YtnbodnihfkfmnaaLitAwake
namespace Go.Proofs.Ytnbodnihfkfmnaa
open Go.RowKit

set_option maxHeartbeats 1000000 in
theorem lawLitTells_c (l vars : Int) (t : Bool) (w : World) (_h0 : -9223372036854775808 ≤ l) (_h1 : l ≤ 9223372036854775807) (_h2 : -9223372036854775808 ≤ vars) (_h3 : vars ≤ 9223372036854775807) :
    Calls Try.prog 3 #[.int .i64 l, .int .i64 vars, .bool t] w fun e w' => e = .returned (.bool true) ∧ Ext w w' := by
  by_cases h : l < 1 ∨ 100000 < l
  · have e1 : makeE l = 10 := by rw [makeE, if_pos h]
    have e2 : makeV l t = 0 := by rw [makeV, if_pos h]
    clear h
    go_enter Try.func3, Try.ntmps3
    go_wp2_with (first
      | (go_at_call 11; refine (make_c _ _ _).mono ?_; rintro e w' ⟨rfl, rfl⟩)
      | (go_at_call 18; refine (index_c _ _).mono ?_; rintro e w' ⟨rfl, rfl⟩)
      | (go_at_call 20; refine (from_c _ _).mono ?_; rintro e w' ⟨rfl, rfl⟩)
      | (go_at_call 15; refine (var_c _ _).mono ?_; rintro e w' ⟨rfl, rfl⟩)
      | (go_at_call 16; refine (neg_c _ _).mono ?_; rintro e w' ⟨rfl, rfl⟩)
      | (go_at_call 13; refine (litCheck_c _ _ _).mono ?_; rintro e w' ⟨rfl, rfl⟩)
      | (go_at_call 10; refine (rSplit_c _ _).mono ?_; rintro e w' ⟨rfl, rfl⟩)
      | (go_at_call 12; refine (rJoin_c _ _ _).mono ?_; rintro e w' ⟨rfl, rfl⟩)
      | (go_at_call 14; refine (rCheck_c _ _ _).mono ?_; rintro e w' ⟨rfl, rfl⟩)
      | (go_at_call 17; refine (rNeg_c _ _).mono ?_; rintro e w' ⟨rfl, rfl⟩)
      | (go_at_call 19; refine (rIndex_c _ _).mono ?_; rintro e w' ⟨rfl, rfl⟩)
      | (go_at_call 21; refine (rFrom_c _ _).mono ?_; rintro e w' ⟨rfl, rfl⟩)
      | (go_at_call 22; refine (law01awake_c _).mono ?_; rintro e w' ⟨rfl, hx⟩))
    go_ret
    exact ⟨rfl, hx⟩
  · have e1 : makeE l = 0 := by rw [makeE, if_neg h]
    have e2 : (makeV l t != 0) = true := by rw [makeV, if_neg h, bne_iff_ne]; cases t <;> simp <;> omega
    clear h
    go_enter Try.func3, Try.ntmps3
    go_wp2_with (first
      | (go_at_call 11; refine (make_c _ _ _).mono ?_; rintro e w' ⟨rfl, rfl⟩)
      | (go_at_call 18; refine (index_c _ _).mono ?_; rintro e w' ⟨rfl, rfl⟩)
      | (go_at_call 20; refine (from_c _ _).mono ?_; rintro e w' ⟨rfl, rfl⟩)
      | (go_at_call 15; refine (var_c _ _).mono ?_; rintro e w' ⟨rfl, rfl⟩)
      | (go_at_call 16; refine (neg_c _ _).mono ?_; rintro e w' ⟨rfl, rfl⟩)
      | (go_at_call 13; refine (litCheck_c _ _ _).mono ?_; rintro e w' ⟨rfl, rfl⟩)
      | (go_at_call 10; refine (rSplit_c _ _).mono ?_; rintro e w' ⟨rfl, rfl⟩)
      | (go_at_call 12; refine (rJoin_c _ _ _).mono ?_; rintro e w' ⟨rfl, rfl⟩)
      | (go_at_call 14; refine (rCheck_c _ _ _).mono ?_; rintro e w' ⟨rfl, rfl⟩)
      | (go_at_call 17; refine (rNeg_c _ _).mono ?_; rintro e w' ⟨rfl, rfl⟩)
      | (go_at_call 19; refine (rIndex_c _ _).mono ?_; rintro e w' ⟨rfl, rfl⟩)
      | (go_at_call 21; refine (rFrom_c _ _).mono ?_; rintro e w' ⟨rfl, rfl⟩)
      | (go_at_call 22; refine (law01awake_c _).mono ?_; rintro e w' ⟨rfl, hx⟩))
    go_ret
    exact ⟨rfl, hx⟩
end Go.Proofs.Ytnbodnihfkfmnaa
