/- LubyTwice answers true. -/
import Derived.Test.YtnbodnihfkfmnaaLubyAwake
namespace Go.Proofs.Ytnbodnihfkfmnaa
open Go.RowKit

theorem lubyT_twice (k : Nat) (h1 : 1 ≤ k) (h2 : k ≤ 20) : lubyT (2 * (2 ^ k - 1) + 1) = ((([] ++ lubyT (2 ^ k - 1)) ++ lubyT (2 ^ k - 1)) ++ [((2 ^ k : Nat) : Int)]) ∧ lubyN (2 * (2 ^ k - 1) + 1) = 2 ^ k := by
  obtain ⟨j, rfl⟩ : ∃ j, k = j + 1 := ⟨k - 1, by omega⟩
  have hp := Nat.two_pow_pos j
  have e1 : 2 ^ (j + 1) = 2 * 2 ^ j := by rw [Nat.pow_succ]; omega
  have e2 : 2 ^ (j + 1 + 1) = 2 * 2 ^ (j + 1) := by rw [Nat.pow_succ]; omega
  have hl : lubyN (2 * (2 ^ (j + 1) - 1) + 1) = 2 ^ (j + 1) := by
    rw [show 2 * (2 ^ (j + 1) - 1) + 1 = 2 ^ (j + 1 + 1) - 1 by omega]
    exact lubyN_last (j + 1) (by omega)
  refine ⟨?_, hl⟩
  rw [lubyT_succ, hl, List.nil_append]
  congr 1
  apply List.ext_getElem?
  intro i
  rw [List.getElem?_append]
  simp only [lubyT_len]
  by_cases h : i < 2 ^ (j + 1) - 1
  · rw [if_pos h]; simp [lubyT, h, show i < 2 * (2 ^ (j + 1) - 1) by omega]
  · rw [if_neg h]
    by_cases h' : i < 2 * (2 ^ (j + 1) - 1)
    · have hs := kst_shift j (by omega) (i - (2 ^ (j + 1) - 1)) (by omega)
      rw [show 2 ^ (j + 1) - 1 + (i - (2 ^ (j + 1) - 1)) = i by omega] at hs
      simp [lubyT, h', show i - (2 ^ (j + 1) - 1) < 2 ^ (j + 1) - 1 by omega, lubyN, hs]
    · rw [List.getElem?_eq_none (by simp [lubyT_len]; omega), List.getElem?_eq_none (by simp [lubyT_len]; omega)]

theorem lubyL_T (n : Nat) (h1 : 1 ≤ n) (h2 : n ≤ 100000) : lubyL n = lubyT n := by rw [lubyL, if_neg (by omega), Int.toNat_natCast]; rfl

theorem own_empty (w : World) : OwnI (w.alloc (.cells #[] 3)) w.heap.size (.slice (some ⟨w.heap.size, 0, none⟩) 0 0) [] :=
  ⟨rfl, .inr ⟨w.heap.size, 0, #[], rfl, Nat.le_refl _, heap_alloc_new w _, Nat.le_refl _, Nat.zero_le _, rfl, rfl⟩⟩

set_option maxHeartbeats 1000000 in
theorem lawLubyTwice_c (k : Int) (w : World) (_h0 : -9223372036854775808 ≤ k) (_h1 : k ≤ 9223372036854775807) :
    Calls Try.prog 8 #[.int .i64 k] w fun e w' => e = .returned (.bool true) ∧ Ext w w' := by
  by_cases h : k < 1 ∨ 11 < k
  · go_enter Try.func8, Try.ntmps8
    go_wp2_with (go_at_call 27; refine (law18awake_c _).mono ?_; rintro e w1 ⟨rfl, hx⟩)
    all_goals
      go_ret
      exact ⟨rfl, hx⟩
  · obtain ⟨j, rfl⟩ := Int.eq_ofNat_of_zero_le (show 0 ≤ k by omega)
    have h1 : 1 ≤ j := by omega
    have h2 : j ≤ 11 := by omega
    clear h _h0 _h1
    have HT := Lib.hid (lubyT_twice j h1 (by omega))
    have hpj : 2 ^ j ≤ 2 ^ 11 := Nat.pow_le_pow_right (by omega) h2
    have hpj2 : 2 ^ 1 ≤ 2 ^ j := Nat.pow_le_pow_right (by omega) h1
    have hp : ((2 : Int) ^ j) = ((2 ^ j : Nat) : Int) := by push_cast; rfl
    generalize hP : 2 ^ j = p at *
    have hw1 : wrap64 ((2 : Int) ^ j) = p := by rw [hp, IntWalk.wrap64_in _ ⟨by omega, by omega⟩]
    clear hp hP
    have hp1 : 2 ≤ p := by omega
    have hp2 : p ≤ 2048 := by omega
    clear hpj hpj2
    go_enter Try.func8, Try.ntmps8
    go_wp2_with fail
    refine (lubyFirst_c _ _).mono ?_
    rintro e w1 ⟨A1, n1, c1, rfl, hs1, hx1⟩
    rw [show ((p : Int) - 1) = ((p - 1 : Nat) : Int) by omega, lubyL_T _ (by omega) (by omega)] at hs1
    have hn1 : n1 = p - 1 := by rw [← hs1.1, lubyT_len]
    have hb1 : ((n1 : Int) == (p : Int) - 1) = true := by rw [beq_iff_eq]; omega
    have HN1 := Lib.hid hn1
    have HX1 := Lib.hid hx1
    have hn1' : n1 ≤ 2048 := by omega
    have HLT := Lib.hid (lubyT_len (p - 1))
    clear hn1 hx1
    have HS1 := Lib.hid hs1
    clear hs1
    go_wp2_with fail
    refine (lubyFirst_c _ _).mono ?_
    rintro e w2 ⟨A2, n2, c2, rfl, hs2, hx2⟩
    rw [show (2 * ((p : Int) - 1) + 1) = ((2 * (p - 1) + 1 : Nat) : Int) by omega, lubyL_T _ (by omega) (by omega)] at hs2
    have HS1b := Lib.hid (HS1.out.ext hx2)
    have HS2 := Lib.hid hs2
    have HX2 := Lib.hid hx2
    clear hs2 hx2
    go_wp2_with (first
      | (at_builtin; refine appendS _ rfl (.tmp 24) (.tmp 25) rfl w2.heap.size _ [] rfl (own_empty w2) _ _ _ (lubyT (p - 1)) rfl (HS1b.out.ext ((Ext.refl _).alloc _)) (by simp; omega) (by simp) ?_; intro v3 w3 ho3 hg3 hloc; clear hloc; have HO3 := Lib.hid ho3; have HG3 := Lib.hid hg3; have HX3 : Hid (Ext w2 w3) := Ext.grown ((Ext.refl _).alloc _) hg3 (fun j hj => by have := (own_empty w2).blk j hj; omega); clear ho3 hg3)
      | (at_builtin; refine appendS _ rfl (.tmp 26) (.tmp 27) rfl w2.heap.size _ _ rfl HO3.out _ _ _ (lubyT (p - 1)) rfl (HS1b.out.ext HX3.out) (by simp [lubyT_len]; omega) HX3.out.size_le ?_; intro v4 w4 ho4 hg4 hloc; clear hloc; have HO4 := Lib.hid ho4; have HX4 : Hid (Ext w2 w4) := Ext.grown HX3.out hg4 (fun j hj => (HO3.out.blk j hj).1); clear ho4 hg4)
      | (at_builtin; refine append1 _ rfl (.tmp 28) (.tmp 31) rfl w2.heap.size _ _ rfl (HO4.out.alloc _) _ _ _ rfl (cell_one _ _ _) (by omega) (by simp [lubyT_len]; omega) (by have := HX4.out.size_le; simp; omega) ?_; intro v5 w5 ho5 hg5 hloc; clear hloc; have HO5 := Lib.hid ho5; have HX5 : Hid (Ext w2 w5) := Ext.grown (HX4.out.alloc _) hg5 (fun j hj => (HO4.out.blk j hj).1); clear ho5 hg5))
    have ho5 := HO5.out
    rw [← HT.out.1] at ho5
    obtain ⟨A5, n5, c5, hv5, hs5⟩ := ho5.sl (by rw [lubyT_len]; omega) (lubyT_bd _ (by omega))
    rw [hv5]
    have hsame : sameV (lubyT (2 * (p - 1) + 1)) (lubyT (2 * (p - 1) + 1)) = true := by simp [sameV]
    refine (same_c _ _ _ _ _ _ _ _ _ (HS2.out.ext HX5.out) hs5).mono ?_
    rintro e w6 ⟨rfl, hx6⟩
    clear ho5 hs5 hv5
    have HA : Hid (lubyAt (2 * ((p : Int) - 1) + 1) = p) := by
      unfold Hid
      rw [lubyAt, if_neg (by omega), show (2 * ((p : Int) - 1) + 1).toNat = 2 * (p - 1) + 1 by omega, HT.out.2]
    go_wp2_with (first
      | (go_at_call 28; refine (lubyAt_c _ _).mono ?_; rintro e w' ⟨rfl, rfl⟩; rw [HA.out])
      | (go_at_call 27; refine (law18awake_c _).mono ?_; rintro e w7 ⟨rfl, hx7⟩))
    all_goals
      go_ret
      have h1 := HX1.out
      have h2 := HX2.out
      have h5 := HX5.out
      exact ⟨rfl, (((h1.trans h2).trans h5).trans hx6).trans hx7⟩
end Go.Proofs.Ytnbodnihfkfmnaa
