/- AssignModels answers true. -/
import Derived.Test.YthkjcdkdfeckbaaAssignAwake
namespace Go.Proofs.Ythkjcdkdfeckbaa
open Go.RowKit

theorem sameV_self (xs : List Int) : sameV xs xs = true := by simp [sameV]

set_option maxHeartbeats 4000000 in
theorem lawAssignModels_c (A : Option Addr) (n c : Nat) (l : List Int) (v : Int) (A' : Option Addr) (n' c' : Nat) (m : List Bool) (w : World) (h : IntSl w A n l ∧ n ≤ c) (hv1 : -9223372036854775808 ≤ v) (hv2 : v ≤ 9223372036854775807) (h' : BoolSl w A' n' m) :
    Calls Try.prog 7 #[.slice A n c, .int .i64 v, .slice A' n' c'] w fun e w' => e = .returned (.bool true) ∧ Ext w w' := by
  obtain ⟨hl, hc⟩ := h
  by_cases h : 200 < n ∨ 300 < v ∨ 300 < n'
  · rcases h with h | h | h
    all_goals
      go_enter Try.func7, Try.ntmps7
      go_wp2_with (go_at_call 27; refine (law03awake_c _).mono ?_; rintro e w1 ⟨rfl, hx⟩)
      all_goals
        try go_ret
        try exact ⟨rfl, hx⟩
    all_goals (exfalso; omega)
  · have hn : ¬ 200 < n := by omega
    have hn2 : ¬ 300 < v := by omega
    have hn3 : ¬ 300 < n' := by omega
    have hsm : n ≤ 1000000000000 := by omega
    clear h
    have r1 := sameB_refl (modelV l v)
    have r2 := sameV_self (litsV m)
    have hF : fullV l v = ((assignV l v == 0) && ((n : Int) == v)) := by rw [fullV, hl.1]
    cases hb : (assignV l v == 0) <;> cases hb2 : ((n : Int) == v) <;> rw [hb, hb2] at hF
    all_goals
      go_enter Try.func7, Try.ntmps7
      go_wp2_with (first
        | (go_at_call 37; (with_reducible refine (model_c _ _ _ l v _ hl hsm).mono ?_); rintro e w1 ⟨A1, m1, c1, rfl, hs1, hx1⟩)
        | (go_at_call 38; (with_reducible refine (rModel_c _ _ _ l v _ (hl.ext hx1)).mono ?_); rintro e w2 ⟨A2, m2, c2, rfl, hs2, hx2⟩; have hs3 := hs1.ext hx2)
        | (go_at_call 36; (with_reducible refine (sameB_c _ _ _ _ _ _ _ _ _ hs3 hs2).mono ?_); rintro e w3 ⟨rfl, hx3⟩)
        | (go_at_call 39; (with_reducible refine (from_list_c _ _ _ m _ ?_).mono ?_); (exact h'.ext (hx1.trans (hx2.trans hx3))); rintro e w4 ⟨A4, m4, c4, rfl, hs4, hx4⟩)
        | (go_at_call 40; (with_reducible refine (rFrom_list_c _ _ _ m _ ?_).mono ?_); (exact h'.ext (hx1.trans (hx2.trans (hx3.trans hx4)))); rintro e w5 ⟨A5, m5, c5, rfl, hs5, hx5⟩; have hs6 := hs4.ext hx5)
        | (go_at_call 16; (with_reducible refine (same_c _ _ _ _ _ _ _ _ _ hs6 hs5).mono ?_); rintro e w6 ⟨rfl, hx6⟩; have hx06 := hx1.trans (hx2.trans (hx3.trans (hx4.trans (hx5.trans hx6)))))
        | (go_at_call 41; (with_reducible refine (full_c _ _ _ l v _ (hl.ext hx06) hsm hv1 hv2).mono ?_); rintro e w7 ⟨rfl, hx7⟩)
        | (go_at_call 24; (with_reducible refine (rACheck_c _ _ _ l v _ (hl.ext (hx06.trans hx7)) hc hv1 hv2).mono ?_); rintro e w8 ⟨rfl, hx8⟩)
        | (go_at_call 27; refine (law03awake_c _).mono ?_; rintro e w9 ⟨rfl, hx9⟩))
      go_ret
      exact ⟨rfl, hx06.trans (hx7.trans (hx8.trans hx9))⟩
end Go.Proofs.Ythkjcdkdfeckbaa
