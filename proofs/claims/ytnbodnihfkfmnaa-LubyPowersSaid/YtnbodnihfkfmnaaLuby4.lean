/- Layer 18: Next, and the reference's. -/
import Derived.Test.YtnbodnihfkfmnaaLuby3
namespace Go.Proofs.Ytnbodnihfkfmnaa
open Go.RowKit

def badNext (c u : Int) : Prop := c < 0 ∨ 1000000 < c ∨ u < 1 ∨ 1000000 < u
def RetNext (c u : Int) (w : World) (e : Ending) (w' : World) : Prop := ∃ r, e = .returned (.int .i64 r) ∧ (badNext c u ∧ r = 0 ∨ ¬ badNext c u ∧ NextIs c u r) ∧ Ext w w'

theorem next_bd {u : Int} {k : Nat} (h1 : 1 ≤ u) (h2 : u ≤ 1000000) (hk : k ≤ 1000001) : 1 ≤ u * (lubyN (k + 1) : Nat) ∧ u * (lubyN (k + 1) : Nat) ≤ 2000000000000 := by
  have hb := lubyN_bd (k + 1) (by omega) (by omega)
  constructor
  · have := Int.mul_le_mul_of_nonneg_left (show (1 : Int) ≤ (lubyN (k + 1) : Nat) by omega) (show 0 ≤ u by omega)
    omega
  · have a := Int.mul_le_mul_of_nonneg_left (show ((lubyN (k + 1) : Nat) : Int) ≤ 2000000 by omega) (show 0 ≤ u by omega)
    have b := Int.mul_le_mul_of_nonneg_right h2 (show (0 : Int) ≤ 2000000 by omega)
    omega

set_option maxHeartbeats 2000000 in
theorem lubyNext_c (c u : Int) (w : World) : Calls Try.prog 35 #[.int .i64 c, .int .i64 u] w (RetNext c u w) := by
  by_cases h : badNext c u
  · have H := Lib.hid h
    unfold badNext at h
    go_enter Try.func35, Try.ntmps35
    go_wp2
    all_goals
      go_ret
      exact ⟨0, rfl, .inl ⟨H.out, rfl⟩, Ext.refl w⟩
  · have H := Lib.hid h
    have hc0 : 0 ≤ c := by unfold badNext at h; omega
    have hc1 : c ≤ 1000000 := by unfold badNext at h; omega
    have hu0 : 1 ≤ u := by unfold badNext at h; omega
    have hu1 : u ≤ 1000000 := by unfold badNext at h; omega
    clear h
    have hn0 := next_bd (k := 0) hu0 hu1 (by omega)
    have hn0a := hn0.1
    have hn0b := hn0.2
    have e0 : lubyN (0 + 1) = 1 := rfl
    rw [e0] at hn0a hn0b
    have E0 := Lib.hid e0
    clear hn0 e0
    go_enter Try.func35, Try.ntmps35
    go_wp2_with (first
      | (go_at_call 42; refine (stepper_c _).mono ?_; rintro e w1 ⟨rfl, hp, hx, hs⟩; have HP := Lib.hid hp; have HX := Lib.hid hx; clear hp hx hs)
      | (go_at_call 46; refine (step_c 0 _ _ _ HP.out (by omega)).mono ?_; rintro e w2 ⟨rfl, hp2, hbut⟩; have HP2 := Lib.hid hp2; have HBUT := Lib.hid hbut; clear hp2 hbut; rw [E0.out]))
    go_loopw [6] (fun s wr => ∃ (k : Nat) (a : Int), s = .int .i64 a ∧ a = u * (lubyS (k + 1) : Nat) ∧ u * (lubyS k : Nat) ≤ c ∧ 0 ≤ a ∧ a ≤ 3000000000000 ∧ Pair wr w.heap.size (w.heap.size + 1) (k + 1) ∧ Ext w wr) (fun s _ => (c + 1 - intOf s).toNat)
    case atStart => exact ⟨0, _, rfl, by simp [lubyS, E0.out], by simp [lubyS, hc0], by omega, by omega, HP2.out, Below.trans HX.out (HBUT.out.below (B := w.heap.size) (Nat.le_refl _) (by omega) HX.out.size_le)⟩
    case round =>
      obtain ⟨k, a, rfl, ha, hk, ha0, ha1, hp, hx⟩ := hrel
      have HA := Lib.hid ha
      have HK := Lib.hid hk
      have HP1 := Lib.hid hp
      have HX1 := Lib.hid hx
      have hkc : (k : Int) ≤ c := by
        rcases Nat.lt_or_ge k 1000001 with h | h
        · have := (lubyS_bd k (by omega)).1
          have h2 := Int.mul_le_mul_of_nonneg_right hu0 (show (0 : Int) ≤ (lubyS k : Nat) by omega)
          omega
        · have h1 := lubyS_mono h
          have h3 := (lubyS_bd 1000001 (by omega)).1
          have h2 := Int.mul_le_mul_of_nonneg_right hu0 (show (0 : Int) ≤ (lubyS k : Nat) by omega)
          omega
      clear ha hk hp hx
      by_cases hlt : a ≤ c
      · have hb := next_bd (k := k + 1) hu0 hu1 (by omega)
        have hb1 := hb.1
        have hb2 := hb.2
        clear hb
        go_wp2_with (go_at_call 46; refine (step_c (k + 1) _ _ _ HP1.out (by omega)).mono ?_; rintro e w2 ⟨rfl, hp2, hbut⟩; have HP2 := Lib.hid hp2; have HBUT := Lib.hid hbut; clear hp2 hbut)
        go_roundw
        case rel => exact ⟨k + 1, _, rfl, by rw [HA.out]; simp [lubyS, Int.mul_add], by rw [← HA.out]; exact hlt, by omega, by omega, HP2.out, Below.trans HX1.out (HBUT.out.below (B := w.heap.size) (Nat.le_refl _) (by omega) HX1.out.size_le)⟩
        case measure => simp only [intOf]; omega
      · go_wp2
        go_ret
        exact ⟨a, rfl, .inr ⟨H.out, k, HA.out, by omega, HK.out, hkc⟩, HX1.out⟩

set_option maxHeartbeats 2000000 in
theorem rLubyNext_c (c u : Int) (w : World) : Calls Try.prog 36 #[.int .i64 c, .int .i64 u] w (RetNext c u w) := by
  by_cases h : badNext c u
  · have H := Lib.hid h
    unfold badNext at h
    go_enter Try.func36, Try.ntmps36
    go_wp2
    all_goals
      go_ret
      exact ⟨0, rfl, .inl ⟨H.out, rfl⟩, Ext.refl w⟩
  · have H := Lib.hid h
    have hc0 : 0 ≤ c := by unfold badNext at h; omega
    have hc1 : c ≤ 1000000 := by unfold badNext at h; omega
    have hu0 : 1 ≤ u := by unfold badNext at h; omega
    have hu1 : u ≤ 1000000 := by unfold badNext at h; omega
    clear h
    go_enter Try.func36, Try.ntmps36
    go_wp2
    go_loop [5, 6] (fun s i => ∃ (k : Nat) (a : Int), s = .int .i64 a ∧ i = .int .i64 ((k : Int) + 1) ∧ a = u * (lubyS k : Nat) ∧ (∀ j, k = j + 1 → u * (lubyS j : Nat) ≤ c) ∧ (k : Int) ≤ c + 1 ∧ 0 ≤ a ∧ a ≤ 3000000000000) (fun s _ => (c + 1 - intOf s).toNat)
    case atStart => exact ⟨0, 0, rfl, rfl, by simp [lubyS], fun j hj => by omega, by omega, by omega, by omega⟩
    case round =>
      obtain ⟨k, a, rfl, rfl, ha, hk, hkc, ha0, ha1⟩ := hrel
      have HA := Lib.hid ha
      have HK := Lib.hid hk
      clear ha hk
      by_cases hlt : a ≤ c
      · have hb := next_bd (k := k) hu0 hu1 (by omega)
        have hb1 := hb.1
        have hb2 := hb.2
        clear hb
        have hk2 : (k : Int) ≤ c := by
          have := (lubyS_bd k (by omega)).1
          have h2 := Int.mul_le_mul_of_nonneg_right hu0 (show (0 : Int) ≤ (lubyS k : Nat) by omega)
          have := HA.out
          omega
        have HL : Hid (lubyAt ((k : Int) + 1) = lubyN (k + 1)) := by unfold Hid; rw [lubyAt, if_neg (by omega)]; congr 1
        go_wp2_with (go_at_call 29; refine (rLubyAt_c _ _).mono ?_; rintro e w' ⟨rfl, rfl⟩; rw [HL.out])
        go_round
        case rel => exact ⟨k + 1, _, rfl, by go_num, by rw [HA.out]; simp [lubyS, Int.mul_add], fun j hj => by (obtain rfl : k = j := by omega); (rw [← HA.out]); exact hlt, by omega, by omega, by omega⟩
        case measure => simp only [intOf]; omega
      · go_wp2
        go_ret
        cases k with
        | zero => have := HA.out; simp [lubyS] at this; omega
        | succ j => exact ⟨a, rfl, .inr ⟨H.out, j, HA.out, by omega, HK.out j rfl, by omega⟩, Ext.refl _⟩
end Go.Proofs.Ytnbodnihfkfmnaa
