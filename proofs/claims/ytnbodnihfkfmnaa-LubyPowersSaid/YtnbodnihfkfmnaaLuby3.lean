/- Layer 18: Sum, Next, and the reference's. -/
import Derived.Test.YtnbodnihfkfmnaaLuby2
namespace Go.Proofs.Ytnbodnihfkfmnaa
open Go.RowKit

def lubySum (n : Int) : Int := if n < 0 ∨ 100000 < n then 0 else (lubyS n.toNat : Nat)

set_option maxHeartbeats 1000000 in
theorem lubySum_c (n : Int) (w : World) : Calls Try.prog 33 #[.int .i64 n] w fun e w' => e = .returned (.int .i64 (lubySum n)) ∧ Ext w w' := by
  by_cases h : n < 0 ∨ 100000 < n
  · have HF : Hid (lubySum n = 0) := by unfold Hid; rw [lubySum, if_pos h]
    go_enter Try.func33, Try.ntmps33
    go_wp2
    all_goals
      go_ret
      exact ⟨ret_int HF.out.symm, Ext.refl w⟩
  · obtain ⟨m, rfl⟩ := Int.eq_ofNat_of_zero_le (show 0 ≤ n by omega)
    have HF : Hid (lubySum m = lubyS m) := by unfold Hid; rw [lubySum, if_neg h, Int.toNat_natCast]
    have h2 : m ≤ 100000 := by omega
    clear h
    go_enter Try.func33, Try.ntmps33
    go_wp2_with (go_at_call 42; refine (stepper_c _).mono ?_; rintro e w1 ⟨rfl, hp, hx, hs⟩; have HP := Lib.hid hp; have HX := Lib.hid hx; clear hp hx hs)
    go_loopw [4, 13] (fun s i wr => ∃ k : Nat, k ≤ m ∧ i = .int .i64 k ∧ s = .int .i64 (lubyS k : Nat) ∧ Pair wr w.heap.size (w.heap.size + 1) k ∧ Ext w wr) (fun _ i _ => m - (intOf i).toNat)
    case atStart => exact ⟨0, Nat.zero_le _, rfl, rfl, HP.out, HX.out⟩
    case round =>
      obtain ⟨k, hk, rfl, rfl, hp, hx⟩ := hrel
      have HP1 := Lib.hid hp
      have HX1 := Lib.hid hx
      clear hp hx
      have hb := lubyS_bd k (by omega)
      have hb2 : k * k ≤ 100000 * 100000 := Nat.mul_le_mul (by omega) (by omega)
      have hb3 : lubyS k ≤ 10000000000 := by omega
      have hb4 := lubyN_bd (k + 1) (by omega) (by omega)
      clear hb hb2
      by_cases hlt : k < m
      · go_wp2_with (go_at_call 46; refine (step_c k _ _ _ HP1.out (by omega)).mono ?_; rintro e w2 ⟨rfl, hp2, hbut⟩; have HP2 := Lib.hid hp2; have HBUT := Lib.hid hbut; clear hp2 hbut)
        go_roundw
        case rel => exact ⟨k + 1, by omega, by go_num, by simp [lubyS], HP2.out, Below.trans HX1.out (HBUT.out.below (B := w.heap.size) (Nat.le_refl _) (by omega) HX1.out.size_le)⟩
        case measure => simp [intOf]; omega
      · go_wp2
        go_ret
        obtain rfl : k = m := by omega
        exact ⟨ret_int HF.out.symm, HX1.out⟩

set_option maxHeartbeats 1000000 in
theorem rLubySum_c (n : Int) (w : World) : Calls Try.prog 34 #[.int .i64 n] w fun e w' => e = .returned (.int .i64 (lubySum n)) ∧ w = w' := by
  by_cases h : n < 0 ∨ 100000 < n
  · have HF : Hid (lubySum n = 0) := by unfold Hid; rw [lubySum, if_pos h]
    go_enter Try.func34, Try.ntmps34
    go_wp2
    refine wp_loop_rounds 1 ?_
    rw [rounds_succ]
    go_wp2
    all_goals
      go_ret
      exact ⟨ret_int HF.out.symm, rfl⟩
  · obtain ⟨m, rfl⟩ := Int.eq_ofNat_of_zero_le (show 0 ≤ n by omega)
    have HF : Hid (lubySum m = lubyS m) := by unfold Hid; rw [lubySum, if_neg h, Int.toNat_natCast]
    have h2 : m ≤ 100000 := by omega
    clear h
    go_enter Try.func34, Try.ntmps34
    go_wp2
    go_loop [3, 4] (fun s i => ∃ k : Nat, k ≤ m ∧ i = .int .i64 ((k : Int) + 1) ∧ s = .int .i64 (lubyS k : Nat)) (fun _ i => m + 1 - (intOf i).toNat)
    case atStart => exact ⟨0, Nat.zero_le _, rfl, rfl⟩
    case round =>
      obtain ⟨k, hk, rfl, rfl⟩ := hrel
      have hb := lubyS_bd k (by omega)
      have hb2 : k * k ≤ 100000 * 100000 := Nat.mul_le_mul (by omega) (by omega)
      have hb3 : lubyS k ≤ 10000000000 := by omega
      have hb4 := lubyN_bd (k + 1) (by omega) (by omega)
      clear hb hb2
      have HA : Hid (lubyAt ((k : Int) + 1) = lubyN (k + 1)) := by unfold Hid; rw [lubyAt, if_neg (by omega)]; congr 1
      by_cases hlt : k < m
      · go_wp2_with (go_at_call 29; refine (rLubyAt_c _ _).mono ?_; rintro e w' ⟨rfl, rfl⟩; rw [HA.out])
        go_round
        case rel => exact ⟨k + 1, by omega, by go_num, by simp [lubyS]⟩
        case measure => simp [intOf]; omega
      · go_wp2
        go_ret
        obtain rfl : k = m := by omega
        exact ⟨ret_int HF.out.symm, rfl⟩
end Go.Proofs.Ytnbodnihfkfmnaa
