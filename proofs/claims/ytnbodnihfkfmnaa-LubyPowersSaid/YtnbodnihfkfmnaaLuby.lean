/- Layer 18: luby.At, the pair that steps, and the reference's At. -/
import Derived.Test.YtnbodnihfkfmnaaLubyP
import Derived.Test.YtnbodnihfkfmnaaShelf
import Derived.Test.YtnbodnihfkfmnaaSl
namespace Go.Proofs.Ytnbodnihfkfmnaa
open Go.RowKit

/-- What At answers. -/
def lubyAt (i : Int) : Int := if i < 1 ∨ 1000000000 < i then 0 else lubyN i.toNat

theorem bitLenAux_log : ∀ (f n : Nat), 1 ≤ n → n < 2 ^ f → Lib.bitLenAux f n = Nat.log2 n + 1
  | 0, n, h1, h2 => by simp at h2; omega
  | f + 1, n, h1, h2 => by
    have e : 2 ^ (f + 1) = 2 * 2 ^ f := by rw [Nat.pow_succ]; omega
    rw [Lib.bitLenAux, if_neg (by omega), Nat.log2_def]
    by_cases h : n ≥ 2
    · rw [if_pos h, bitLenAux_log f (n / 2) (by omega) (by omega)]; omega
    · rw [if_neg h]
      obtain rfl : n = 1 := by omega
      cases f <;> simp [Lib.bitLenAux]
theorem bitLen_log (n : Nat) (h : 1 ≤ n) (h2 : n ≤ 1000000000) : (Lib.bitLen n : Int) = (Nat.log2 n : Nat) + 1 := by
  rw [Lib.bitLen, bitLenAux_log 64 n h (by omega)]; omega

set_option maxHeartbeats 1000000 in
theorem lubyAt_c (i : Int) (w : World) : Calls Try.prog 28 #[.int .i64 i] w fun e w' => e = .returned (.int .i64 (lubyAt i)) ∧ w = w' := by
  by_cases h : i < 1 ∨ 1000000000 < i
  · go_enter Try.func28, Try.ntmps28
    go_wp2
    go_step3
    go_wp2
    all_goals
      try rw [Exit.noGoto_ret]
      go_ret
      exact ⟨ret_int (by rw [lubyAt, if_pos (by omega)]), rfl⟩
  · obtain ⟨n, rfl⟩ := Int.eq_ofNat_of_zero_le (show 0 ≤ i by omega)
    have h1 : 1 ≤ n := by omega
    have h2 : n ≤ 1000000000 := by omega
    have HF : Hid (lubyAt n = lubyN n) := by unfold Hid; rw [lubyAt, if_neg h, Int.toNat_natCast]
    clear h
    go_enter Try.func28, Try.ntmps28
    go_wp2
    go_step3
    go_wp2
    go_step3
    go_wp2
    go_loop [0] (fun i => ∃ m : Nat, 1 ≤ m ∧ m ≤ n ∧ i = .int .i64 m ∧ lubyN m = lubyN n) (fun i => (intOf i).toNat)
    case atStart => exact ⟨n, h1, Nat.le_refl _, rfl, rfl⟩
    case round =>
      obtain ⟨m, hm1, hm2, rfl, he⟩ := hrel
      have HE := Lib.hid he
      clear he
      have HB := Lib.hid (bitLen_log m hm1 (by omega))
      obtain ⟨j0, j1, j2⟩ := log2_bd m hm1 (by omega)
      have j0' : Nat.log2 m < 30 := by
        rcases Nat.lt_or_ge (Nat.log2 m) 30 with h | h
        · exact h
        · have := Nat.pow_le_pow_right (n := 2) (by omega) h; omega
      go_wp2_with (go_at_call 41; refine (Try.bits_Len (m : Int) _ (by omega) (by omega)).mono ?_; rintro e w' ⟨rfl, rfl⟩; rw [Int.toNat_natCast, HB.out]; clear HB; generalize Nat.log2 m = j at *)
      all_goals
        have hT := lubyN_top j m j0 j1 j2
        have hJ : 2 ^ j ≤ 2 ^ 29 := Nat.pow_le_pow_right (by omega) (by omega)
        have hp : ((2 : Int) ^ j) = ((2 ^ j : Nat) : Int) := by push_cast; rfl
        have hp1 : ((2 : Int) ^ (j + 1)) = 2 * ((2 ^ j : Nat) : Int) := by rw [Int.pow_succ, hp]; omega
        have hn1 : 2 ^ (j + 1) = 2 * 2 ^ j := by rw [Nat.pow_succ]; omega
        rw [hn1] at hT
        have hpos := Nat.two_pow_pos j
        generalize hP : 2 ^ j = p at *
        have hw1 : wrap64 ((2 : Int) ^ j) = p := by rw [hp, IntWalk.wrap64_in _ ⟨by omega, by omega⟩]
        have hw2 : wrap64 ((2 : Int) ^ (j + 1)) = 2 * p := by rw [hp1, IntWalk.wrap64_in _ ⟨by omega, by omega⟩]
        have hw3 : wrap64 (2 * (p : Int) - 1) = 2 * p - 1 := by rw [IntWalk.wrap64_in _ ⟨by omega, by omega⟩]
        have hw4 : wrap64 ((p : Int) - 1) = p - 1 := by rw [IntWalk.wrap64_in _ ⟨by omega, by omega⟩]
      · have hx : ((m : Int) == wrap64 (wrap64 (2 ^ (j + 1)) - 1)) = true := by assumption
        rw [hw2, hw3] at hx
        have hm := eq_of_beq hx
        try rw [Exit.noGoto_ret]
        go_ret
        exact ⟨ret_int (by rw [HF.out, ← HE.out, hT.1 (by omega), hw1]), rfl⟩
      · have hx : ((m : Int) == wrap64 (wrap64 (2 ^ (j + 1)) - 1)) = false := by assumption
        rw [hw2, hw3] at hx
        have hm := ne_of_beq_false hx
        obtain ⟨t1, t2, t3⟩ := hT.2 (by omega)
        have hw5 : wrap64 ((m : Int) - ((p : Int) - 1)) = ((m + 1 - p : Nat) : Int) := by rw [IntWalk.wrap64_in _ ⟨by omega, by omega⟩]; omega
        rw [hw1, hw4, hw5]
        refine ⟨⟨m + 1 - p, t3, by omega, rfl, by rw [← t1]; exact HE.out⟩, by simp [intOf]; omega⟩

set_option maxHeartbeats 1000000 in
theorem rLubyAt_c (i : Int) (w : World) : Calls Try.prog 29 #[.int .i64 i] w fun e w' => e = .returned (.int .i64 (lubyAt i)) ∧ w = w' := by
  by_cases h : i < 1 ∨ 1000000000 < i
  · go_enter Try.func29, Try.ntmps29
    go_wp2
    all_goals
      go_ret
      exact ⟨ret_int (by rw [lubyAt, if_pos (by omega)]), rfl⟩
  · obtain ⟨n, rfl⟩ := Int.eq_ofNat_of_zero_le (show 0 ≤ i by omega)
    have h1 : 1 ≤ n := by omega
    have h2 : n ≤ 1000000000 := by omega
    have HF : Hid (lubyAt n = lubyN n) := by unfold Hid; rw [lubyAt, if_neg h, Int.toNat_natCast]
    clear h
    go_enter Try.func29, Try.ntmps29
    go_wp2
    go_loop [0, 3] (fun i c => ∃ (m r : Nat), 1 ≤ m ∧ m ≤ 1000000000 ∧ r ≤ 30 ∧ m < 2 ^ (30 - r) ∧ i = .int .i64 m ∧ c = .int .i64 r ∧ lubyN m = lubyN n) (fun _ c => 64 - (intOf c).toNat)
    case atStart => exact ⟨n, 0, h1, h2, by omega, by simp; omega, rfl, rfl, rfl⟩
    case round =>
      obtain ⟨m, r, hm1, hm2, hr, hmr, rfl, rfl, he⟩ := hrel
      have HE := Lib.hid he
      have HR := Lib.hid hmr
      clear he hmr
      go_wp2
      go_loop [4] (fun p => ∃ q : Nat, 1 ≤ q ∧ q ≤ m ∧ p = .int .i64 q ∧ ∃ a, q = 2 ^ a) (fun p => m - (intOf p).toNat)
      case atStart => exact ⟨1, by omega, hm1, rfl, 0, rfl⟩
      case round =>
        obtain ⟨q, hq1, hq2, rfl, ha⟩ := hrel
        have HA := Lib.hid ha
        clear ha
        by_cases hc : 2 * (q : Int) - 1 < m
        · go_wp2
          go_round
          case rel => exact ⟨2 * q, by omega, by omega, by go_num, by obtain ⟨a, ha⟩ := HA.out; exact ⟨a + 1, by rw [Nat.pow_succ, ha]; omega⟩⟩
          case measure => simp [intOf]; omega
        · obtain ⟨a, ha⟩ := HA.out
          have ha30 : a < 30 := by
            rcases Nat.lt_or_ge a 30 with h | h
            · exact h
            · have := Nat.pow_le_pow_right (n := 2) (by omega) h; omega
          have hT := lubyN_top a m (by omega) (by omega) (by rw [Nat.pow_succ]; omega)
          rw [Nat.pow_succ, ← ha] at hT
          have HT := Lib.hid hT
          have HQ := Lib.hid ha
          clear hT ha
          by_cases hx : 2 * (q : Int) - 1 = m
          · have hb : (2 * (q : Int) - 1 == m) = true := by simpa using hx
            have HX := Lib.hid hx
            clear hx
            go_wp2
            go_ret
            have := HX.out
            exact ⟨ret_int (by rw [HF.out, ← HE.out, HT.out.1 (by omega)]), rfl⟩
          · have hb : (2 * (q : Int) - 1 == m) = false := by simpa using hx
            have hx' : (m : Int) < 2 * q - 1 := by omega
            clear hx
            go_wp2
            go_round
            case rel =>
              obtain ⟨t1, t2, t3⟩ := HT.out.2 (by omega)
              have hq := HQ.out
              have hr' := HR.out
              have hra : a < 30 - r := by
                rcases Nat.lt_or_ge a (30 - r) with h | h
                · exact h
                · have := Nat.pow_le_pow_right (n := 2) (by omega) h; omega
              refine ⟨m + 1 - q, r + 1, t3, by omega, by omega, ?_, by go_num, by go_num, by rw [← t1]; exact HE.out⟩
              have := Nat.pow_le_pow_right (n := 2) (by omega) (show a ≤ 30 - (r + 1) by omega)
              omega
            case measure => simp [intOf]; omega
end Go.Proofs.Ytnbodnihfkfmnaa
