/- LubyTells answers true. -/
import Derived.Test.YtnbodnihfkfmnaaLubyAwake
import Derived.Deep.RegionHeld3
namespace Go.Proofs.Ytnbodnihfkfmnaa
open Go.RowKit

theorem next_same {c u r r' : Int} (h : badNext c u ∧ r = 0 ∨ ¬ badNext c u ∧ NextIs c u r) (h' : badNext c u ∧ r' = 0 ∨ ¬ badNext c u ∧ NextIs c u r') : r = r' := by
  rcases h with ⟨h1, h2⟩ | ⟨h1, h2⟩ <;> rcases h' with ⟨h3, h4⟩ | ⟨h3, h4⟩
  · rw [h2, h4]
  · exact absurd h1 h3
  · exact absurd h3 h1
  · exact NextIs.uniq (by unfold badNext at h1; omega) h2 h4

theorem sameV_refl (xs : List Int) : sameV xs xs = true := by simp [sameV]

set_option maxHeartbeats 4000000 in
theorem lawLubyTells_c (i n c u : Int) (w : World) (_h0 : -9223372036854775808 ≤ i) (_h1 : i ≤ 9223372036854775807) (_h2 : -9223372036854775808 ≤ n) (_h3 : n ≤ 9223372036854775807) (_h4 : -9223372036854775808 ≤ c ∧ c ≤ 9223372036854775807) (_h5 : -9223372036854775808 ≤ u ∧ u ≤ 9223372036854775807) :
    Calls Try.prog 7 #[.int .i64 i, .int .i64 n, .agg #[.int .i64 c, .int .i64 u]] w fun e w' => e = .returned (.bool true) ∧ Ext w w' := by
  have hsame := sameV_refl (lubyL n)
  by_cases h : 3000 < n ∨ (1 ≤ u ∧ u < 100 ∧ 10000 < c)
  · rcases h with h | ⟨h1, h2, h3⟩
    all_goals
      go_enter Try.func7, Try.ntmps7
      go_wp2_with (go_at_call 27; refine (law18awake_c _).mono ?_; rintro e w1 ⟨rfl, hx⟩)
      all_goals
        try go_ret
        try exact ⟨rfl, ((Ext.refl _).alloc _).trans hx⟩
    all_goals (exfalso; omega)
  · have hn : n ≤ 3000 := by omega
    have h3 : u < 1 ∨ (1 ≤ u ∧ 100 ≤ u) ∨ (1 ≤ u ∧ u < 100 ∧ c ≤ 10000) := by omega
    clear h
    rcases h3 with h3 | ⟨h3, h4⟩ | ⟨h3, h4, h5⟩
    all_goals
      go_enter Try.func7, Try.ntmps7
      go_wp2_with fail
    all_goals
      go_region_held3 (fun w' => w'.cell? ⟨w.heap.size, 0, none⟩ = some (.int .i64 c) ∧ w'.cell? ⟨w.heap.size, 1, none⟩ = some (.int .i64 u))
        (first | assumption | (go_split_ands; refine ⟨?_, ?_⟩ <;> first | assumption | exact Ext.cell (by assumption) (by assumption) | (go_simp; done)))
        (first
          | (go_at_call 28; refine (lubyAt_c _ _).mono ?_; rintro e w' ⟨rfl, rfl⟩)
          | (go_at_call 29; refine (rLubyAt_c _ _).mono ?_; rintro e w' ⟨rfl, rfl⟩)
          | (go_at_call 31; refine (lubyFirst_c _ _).mono ?_; rintro e w1 ⟨A1, n1, c1, rfl, hs1, hx1⟩)
          | (go_at_call 32; refine (rLubyFirst_c _ _).mono ?_; rintro e w2 ⟨A2, n2, c2, rfl, hs2, hx2⟩; have hs3 := hs1.ext hx2)
          | (go_at_call 30; refine (same_c _ _ _ _ _ _ _ _ _ hs3 hs2).mono ?_; rintro e w3 ⟨rfl, hx3⟩)
          | (go_at_call 33; refine (lubySum_c _ _).mono ?_; rintro e w4 ⟨rfl, hx4⟩)
          | (go_at_call 34; refine (rLubySum_c _ _).mono ?_; rintro e w' ⟨rfl, rfl⟩)
          | (go_at_call 35; refine (lubyNext_c _ _ _).mono ?_; rintro e w5 ⟨r, rfl, hr, hx5⟩)
          | (go_at_call 36; refine (rLubyNext_c _ _ _).mono ?_; rintro e w6 ⟨r', rfl, hr', hx6⟩; obtain rfl := next_same hr hr')
          | (go_at_call 27; refine (law18awake_c _).mono ?_; rintro e w7 ⟨rfl, hx7⟩))
      go_wp2
      go_ret
      exact ⟨rfl, by repeat (first | exact Ext.refl _ | refine Ext.trans ?_ (by assumption) | apply Ext.drew | apply Ext.alloc)⟩
end Go.Proofs.Ytnbodnihfkfmnaa
