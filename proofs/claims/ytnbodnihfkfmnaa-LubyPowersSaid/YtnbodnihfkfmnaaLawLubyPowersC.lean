/- LubyPowers answers true. -/
import Derived.Test.YtnbodnihfkfmnaaLubyAwake
namespace Go.Proofs.Ytnbodnihfkfmnaa
open Go.RowKit

theorem pow_and (k : Nat) : 2 ^ k &&& (2 ^ k - 1) = 0 := by
  apply Nat.eq_of_testBit_eq
  intro i
  rw [Nat.testBit_and, Nat.zero_testBit, Nat.testBit_two_pow, Nat.testBit_two_pow_sub_one]
  by_cases h : k = i <;> simp [h]

theorem luby_pow2 (n : Nat) (h1 : 1 ≤ n) (h2 : n ≤ 1000000) : bits .and .i64 (lubyN n : Nat) ((lubyN n : Nat) - 1 : Int) = 0 := by
  obtain ⟨k, e, l⟩ := lubyN_pow n n (Nat.le_refl _) h1 (by omega)
  have hp := Nat.two_pow_pos k
  rw [show (((lubyN n : Nat) : Int) - 1) = ((lubyN n - 1 : Nat) : Int) by omega, i64_and_nat _ _ (by omega) (by omega), e, pow_and]
  rfl

/-- What LubyPowers asks of when a search begins again. -/
theorem next_law {c u r : Int} (hc0 : 0 ≤ c) (hc1 : c ≤ 10000) (hu0 : 1 ≤ u) (hu1 : u ≤ 1000000) (h : NextIs c u r) :
    c < r ∧ r % u = 0 ∧ (r = u ∨ (¬ badNext (r - 1) u ∧ NextIs (r - 1) u r)) ∧ r - c ≤ u * (c + 1) ∧ 0 ≤ r ∧ r ≤ 100000000000 := by
  obtain ⟨m, e, l1, l2, l3⟩ := h
  have hb := lubyN_bd (m + 1) (by omega) (by omega)
  have hS := lubyS_bd m (by omega)
  have e2 : r = u * (lubyS m : Nat) + u * (lubyN (m + 1) : Nat) := by rw [e]; simp [lubyS, Int.mul_add]
  have hml : (lubyN (m + 1) : Int) ≤ (lubyS m : Nat) + 1 := by omega
  have hmul : u * (lubyN (m + 1) : Int) ≤ u * (((lubyS m : Nat) : Int) + 1) := Int.mul_le_mul_of_nonneg_left hml (by omega)
  have hmd : u * (((lubyS m : Nat) : Int) + 1) = u * (lubyS m : Nat) + u := by rw [Int.mul_add, Int.mul_one]
  have hSc : ((lubyS m : Nat) : Int) ≤ c := by
    have := Int.mul_le_mul_of_nonneg_right hu0 (show (0 : Int) ≤ (lubyS m : Nat) by omega)
    omega
  have hbig : u * (((lubyS m : Nat) : Int) + 1) ≤ u * (c + 1) := Int.mul_le_mul_of_nonneg_left (by omega) (by omega)
  have hu2 : u * (c + 1) ≤ 1000000 * 10001 := Int.mul_le_mul hu1 (by omega) (by omega) (by omega)
  refine ⟨l1, by rw [e]; exact Int.mul_emod_right _ _, ?_, by omega, by omega, by omega⟩
  cases m with
  | zero => left; rw [e]; simp [lubyS, lubyN, kst]
  | succ j =>
    right
    -- then u is at most c, so that what comes is small
    have h1 : 1 ≤ lubyS (j + 1) := by have := hS.1; omega
    have huc : u ≤ c := by
      have := Int.mul_le_mul_of_nonneg_left (show (1 : Int) ≤ (lubyS (j + 1) : Nat) by omega) (show 0 ≤ u by omega)
      omega
    refine ⟨by unfold badNext; omega, j + 1, e, by omega, by omega, by omega⟩

theorem next_good {c u : Int} {w w' : World} {e : Ending} (hc0 : 0 ≤ c) (hc1 : c ≤ 1000000) (hu0 : 1 ≤ u) (hu1 : u ≤ 1000000) (h : RetNext c u w e w') : ∃ r, e = .returned (.int .i64 r) ∧ NextIs c u r ∧ Ext w w' := by
  obtain ⟨r, he, hr, hx⟩ := h
  rcases hr with ⟨hb, _⟩ | ⟨_, hr⟩
  · unfold badNext at hb; omega
  · exact ⟨r, he, hr, hx⟩

set_option maxRecDepth 100000 in
set_option maxHeartbeats 4000000 in
theorem lawLubyPowers_c (i c u : Int) (w : World) (_h0 : -9223372036854775808 ≤ i) (_h1 : i ≤ 9223372036854775807) (_h4 : -9223372036854775808 ≤ c ∧ c ≤ 9223372036854775807) (_h5 : -9223372036854775808 ≤ u ∧ u ≤ 9223372036854775807) :
    Calls Try.prog 9 #[.int .i64 i, .agg #[.int .i64 c, .int .i64 u]] w fun e w' => e = .returned (.bool true) ∧ Ext w w' := by
  by_cases h : i < 1 ∨ 5000 < i
  · rcases h with h | h
    all_goals
      go_enter Try.func9, Try.ntmps9
      go_wp2_with (go_at_call 27; refine (law18awake_c _).mono ?_; rintro e w1 ⟨rfl, hx⟩)
      all_goals
        try go_ret
        try exact ⟨rfl, ((Ext.refl _).alloc _).trans hx⟩
      all_goals (exfalso; omega)
  · obtain ⟨n, rfl⟩ := Int.eq_ofNat_of_zero_le (show 0 ≤ i by omega)
    have h1 : 1 ≤ n := by omega
    have h2 : n ≤ 5000 := by omega
    have HA : Hid (lubyAt n = lubyN n) := by unfold Hid; rw [lubyAt, if_neg (by omega), Int.toNat_natCast]
    have HS1 : Hid (lubySum n = (lubyS (n - 1) : Nat) + (lubyN n : Nat)) := by
      unfold Hid; rw [lubySum, if_neg (by omega), Int.toNat_natCast]
      obtain ⟨m, rfl⟩ : ∃ m, n = m + 1 := ⟨n - 1, by omega⟩
      simp [lubyS]
    have HS2 : Hid (lubySum ((n : Int) - 1) = (lubyS (n - 1) : Nat)) := by unfold Hid; rw [lubySum, if_neg (by omega), show ((n : Int) - 1).toNat = n - 1 by omega]
    have hb := lubyN_bd n (by omega) (by omega)
    have hSb := lubyS_bd (n - 1) (by omega)
    have hSb2 : (n - 1) * (n - 1) ≤ 5000 * 5000 := Nat.mul_le_mul (by omega) (by omega)
    have hSb3 : lubyS (n - 1) ≤ 25000000 := by omega
    have hand := luby_pow2 n (by omega) (by omega)
    clear h hSb hSb2 _h0 _h1
    generalize lubyN n = x at *
    generalize lubyS (n - 1) = s at *
    have hb1 := hb.1
    have hb2 := hb.2
    clear hb
    by_cases hc : c < 0 ∨ 10000 < c ∨ u < 1 ∨ 1000000 < u
    · have hc4 : c < 0 ∨ (0 ≤ c ∧ 10000 < c) ∨ (0 ≤ c ∧ c ≤ 10000 ∧ u < 1) ∨ (0 ≤ c ∧ c ≤ 10000 ∧ 1 ≤ u ∧ 1000000 < u) := by omega
      clear hc
      rcases hc4 with k1 | ⟨k1, k2⟩ | ⟨k1, k2, k3⟩ | ⟨k1, k2, k3, k4⟩
      all_goals
        go_enter Try.func9, Try.ntmps9
        go_wp2_with fail
        refine (lubyAt_c _ _).mono ?_
        rintro e w' ⟨rfl, rfl⟩
        rw [HA.out]
        go_wp2_with fail
        refine (lubySum_c _ _).mono ?_
        rintro e w1 ⟨rfl, hx1⟩
        rw [HS1.out]
        go_wp2_with fail
        refine (lubySum_c _ _).mono ?_
        rintro e w2 ⟨rfl, hx2⟩
        rw [HS2.out]
        have c1 : w1.cell? ⟨w.heap.size, 0, none⟩ = some (.int .i64 c) := hx1.cell (by go_simp)
        have c2 : w1.cell? ⟨w.heap.size, 1, none⟩ = some (.int .i64 u) := hx1.cell (by go_simp)
        have d1 := hx2.cell c1
        have d2 := hx2.cell c2
        clear c1 c2
        go_wp2_with (go_at_call 27; refine (law18awake_c _).mono ?_; rintro e w3 ⟨rfl, hx3⟩)
        go_ret
        exact ⟨rfl, ((((Ext.refl _).alloc _).trans hx1).trans hx2).trans hx3⟩
    · have k1 : 0 ≤ c := by omega
      have k2 : c ≤ 10000 := by omega
      have k3 : 1 ≤ u := by omega
      have k4 : u ≤ 1000000 := by omega
      clear hc _h4 _h5
      have hu1 : 0 ≤ u * (c + 1) := Int.mul_nonneg (by omega) (by omega)
      have hu2 : u * (c + 1) ≤ 1000000 * 10001 := Int.mul_le_mul k4 (by omega) (by omega) (by omega)
      go_enter Try.func9, Try.ntmps9
      go_wp2_with fail
      refine (lubyAt_c _ _).mono ?_
      rintro e w' ⟨rfl, rfl⟩
      rw [HA.out]
      go_wp2_with fail
      refine (lubySum_c _ _).mono ?_
      rintro e w1 ⟨rfl, hx1⟩
      rw [HS1.out]
      go_wp2_with fail
      refine (lubySum_c _ _).mono ?_
      rintro e w2 ⟨rfl, hx2⟩
      rw [HS2.out]
      have c1 : w1.cell? ⟨w.heap.size, 0, none⟩ = some (.int .i64 c) := hx1.cell (by go_simp)
      have c2 : w1.cell? ⟨w.heap.size, 1, none⟩ = some (.int .i64 u) := hx1.cell (by go_simp)
      have d1 := hx2.cell c1
      have d2 := hx2.cell c2
      clear c1 c2
      go_wp2_with fail
      refine (lubyNext_c _ _ _).mono ?_
      intro e w3 hr
      obtain ⟨r, rfl, hr, hx3⟩ := next_good k1 (by omega) k3 k4 hr
      obtain ⟨l1, l2, l3, l4, l5, l6⟩ := next_law k1 k2 k3 k4 hr
      have e1 := hx3.cell d1
      have e2 := hx3.cell d2
      clear d1 d2
      have l2' : (r % u == 0) = true := by simpa using l2
      clear l2
      by_cases hru : r = u
      · have hb : (r == u) = true := by simpa using hru
        have HL := Lib.hid l3
        clear l3 hru
        go_wp2_with (go_at_call 27; refine (law18awake_c _).mono ?_; rintro e w4 ⟨rfl, hx4⟩)
        go_ret
        exact ⟨rfl, (((((Ext.refl _).alloc _).trans hx1).trans hx2).trans hx3).trans hx4⟩
      · have hb : (r == u) = false := by simpa using hru
        have HL := Lib.hid (l3.resolve_left hru)
        clear l3 hru
        go_wp2_with fail
        refine (lubyNext_c _ _ _).mono ?_
        rintro e w4 ⟨r', rfl, hr', hx4⟩
        obtain rfl : r' = r := by
          rcases hr' with ⟨hb', _⟩ | ⟨_, hr'⟩
          · exact absurd hb' HL.out.1
          · exact NextIs.uniq k3 hr' HL.out.2
        have f1 := hx4.cell e1
        have f2 := hx4.cell e2
        clear e1 e2
        go_wp2_with (go_at_call 27; refine (law18awake_c _).mono ?_; rintro e w5 ⟨rfl, hx5⟩)
        go_ret
        exact ⟨rfl, ((((((Ext.refl _).alloc _).trans hx1).trans hx2).trans hx3).trans hx4).trans hx5⟩
end Go.Proofs.Ytnbodnihfkfmnaa
