/- replevinlaw07.awake answers true. -/
import Derived.Test.YthkjcdkdfeckbaaUnits6
import Derived.Test.YthkjcdkdfeckbaaChain
namespace Go.Proofs.Ythkjcdkdfeckbaa
open Go.RowKit

def chainL : List (List Int) := [[1], [-1, 2], [-2, 3]]
theorem chain_p : propV chainL (mostN chainL + 1) [] [] = ([1, 2, 3], [0, 1, 2], -1) := by decide +kernel
theorem chain_bad : (propV chainL (mostN chainL + 1) [-3] []).2.2 = 2 := by decide +kernel
theorem chain_facts : nextU [1] chainL = 1 ∧ nextS [1] chainL = 2
    ∧ (decide (failsV [1, 2, 3] chainL < 0) && decide (nextU [1, 2, 3] chainL < 0)) = true ∧ (decide (failsV [] chainL < 0) && decide (nextU [] chainL < 0)) = false ∧ refutesV chainL [3] = true ∧ refutesV chainL [4] = false ∧ refutesV [] [4, -4] = true ∧ sameV [1, 2, 3] [1, 2, 3] = true ∧ sameV [0, 1, 2] [0, 1, 2] = true := by decide +kernel
theorem bd_small {xs : List Int} (h : (xs.all fun x => decide (-100000 ≤ x) && decide (x ≤ 100000)) = true) : ∀ x ∈ xs, -9223372036854775808 ≤ x ∧ x ≤ 9223372036854775807 := by
  intro x hx
  have := List.all_eq_true.1 h x hx
  simp at this
  omega

set_option maxHeartbeats 4000000 in
theorem law07awake_c (w : World) : Calls Try.prog 11 #[] w fun e w' => e = .returned (.bool true) ∧ Ext w w' := by
  have L1 := intSl_newg #[.int .i64 (-3)] 3 [-3] 1 rfl rfl (by decide) (by decide)
  have L2 := intSl_newg #[.int .i64 1] 3 [1] 1 rfl rfl (by decide) (by decide)
  have L3 := intSl_newg #[.int .i64 1, .int .i64 2, .int .i64 3] 3 [1, 2, 3] 3 rfl rfl (by decide) (by decide)
  have L4 := intSl_newg #[.int .i64 0, .int .i64 1, .int .i64 2] 3 [0, 1, 2] 3 rfl rfl (by decide) (by decide)
  have L5 := intSl_newg #[.int .i64 3] 3 [3] 1 rfl rfl (by decide) (by decide)
  have L6 := intSl_newg #[.int .i64 4] 3 [4] 1 rfl rfl (by decide) (by decide)
  have L7 := intSl_newg #[.int .i64 4, .int .i64 (-4)] 3 [4, -4] 2 rfl rfl (by decide) (by decide)
  obtain ⟨f1, f2, f3, f5, f6, f7, f8, f9, f10⟩ := chain_facts
  have F1 := Lib.hid f1
  have F2 := Lib.hid f2
  have F3 := Lib.hid f3
  have F5 := Lib.hid f5
  clear f1 f2 f3 f5
  go_enter Try.func11, Try.ntmps11
  go_wp2_with fail
  refine (chain_c _).mono ?_
  rintro e w1 ⟨A1, n1, c1, rfl, hL1, hx1⟩
  go_wp2_with fail
  refine (prop_c _ _ _ chainL _ _ _ [] _ hL1 (IntSl.nil _) (by decide) (by decide)).mono ?_
  rintro e w2 ⟨v, u, k, rfl, hv, hu, hk, hx2⟩
  rw [chain_p] at hv hu hk
  obtain rfl : k = -1 := hk
  obtain ⟨Ao, no, co, rfl, hso⟩ := hv.sl (by decide) (bd_small (by decide))
  obtain ⟨Ab, nb, cb, rfl, hsb⟩ := hu.sl (by decide) (bd_small (by decide))
  clear hv hu
  go_wp2_with fail
  refine (chain_c _).mono ?_
  rintro e w3 ⟨A3, n3, c3, rfl, hL3, hx3⟩
  go_wp2_with fail
  refine (prop_c _ _ _ chainL _ _ _ [-3] _ (hL3.ext ?_) (L1 _ _ ?_) (by decide) (by decide)).mono ?_
  · (repeat (first | with_reducible exact Ext.refl _ | with_reducible apply Ext.alloc | with_reducible apply Ext.drew | with_reducible apply Ext.drewN | (apply Ext.trans'; assumption)))
  · first | with_reducible rfl | simp
  rintro e w4 ⟨v4, u4, k4, rfl, _, _, hk4, hx4⟩
  rw [chain_bad] at hk4
  subst hk4
  go_wp2_with fail
  refine (chain_c _).mono ?_
  rintro e w5 ⟨A5, n5, c5, rfl, hL5, hx5⟩
  go_wp2_with fail
  refine (next_c _ _ _ chainL _ _ _ [1] _ (hL5.ext ?_) (L2 _ _ ?_) (by decide)).mono ?_
  · (repeat (first | with_reducible exact Ext.refl _ | with_reducible apply Ext.alloc | with_reducible apply Ext.drew | with_reducible apply Ext.drewN | (apply Ext.trans'; assumption)))
  · first | with_reducible rfl | simp
  rintro e w6 ⟨x6, i6, t6, rfl, hx, hi, ht, hx6⟩
  rw [F1.out] at hi ht
  rw [F2.out] at hx
  obtain rfl : x6 = 2 := hx
  obtain rfl : i6 = 1 := hi
  obtain rfl : t6 = true := ht
  go_wp2_with fail
  refine (same_c _ _ _ [1, 2, 3] _ _ _ [1, 2, 3] _ (hso.ext ?_) (L3 _ _ ?_)).mono ?_
  · (repeat (first | with_reducible exact Ext.refl _ | with_reducible apply Ext.alloc | with_reducible apply Ext.drew | with_reducible apply Ext.drewN | (apply Ext.trans'; assumption)))
  · first | with_reducible rfl | simp
  rintro e w7 ⟨rfl, hx7⟩
  rw [f9]
  go_wp2_with fail
  refine (same_c _ _ _ [0, 1, 2] _ _ _ [0, 1, 2] _ (hsb.ext ?_) (L4 _ _ ?_)).mono ?_
  · (repeat (first | with_reducible exact Ext.refl _ | with_reducible apply Ext.alloc | with_reducible apply Ext.drew | with_reducible apply Ext.drewN | (apply Ext.trans'; assumption)))
  · first | with_reducible rfl | simp
  rintro e w8 ⟨rfl, hx8⟩
  rw [f10]
  go_wp2_with fail
  refine (chain_c _).mono ?_
  rintro e w9 ⟨A9, n9, c9, rfl, hL9, hx9⟩
  go_wp2_with fail
  refine (closed_c _ _ _ chainL _ _ _ [1, 2, 3] _ (hL9.ext ?_) (hso.ext ?_) (by have := hso.1; simp at this; omega)).mono ?_
  · (repeat (first | with_reducible exact Ext.refl _ | with_reducible apply Ext.alloc | with_reducible apply Ext.drew | with_reducible apply Ext.drewN | (apply Ext.trans'; assumption)))
  · (repeat (first | with_reducible exact Ext.refl _ | with_reducible apply Ext.alloc | with_reducible apply Ext.drew | with_reducible apply Ext.drewN | (apply Ext.trans'; assumption)))
  rintro e w10 ⟨rfl, hx10⟩
  rw [F3.out]
  go_wp2_with fail
  refine (chain_c _).mono ?_
  rintro e w11 ⟨A11, n11, c11, rfl, hL11, hx11⟩
  go_wp2_with fail
  refine (closed_c _ _ _ chainL _ _ _ [] _ (hL11.ext ?_) (IntSl.nil _) (by decide)).mono ?_
  · (repeat (first | with_reducible exact Ext.refl _ | with_reducible apply Ext.alloc | with_reducible apply Ext.drew | with_reducible apply Ext.drewN | (apply Ext.trans'; assumption)))
  rintro e w12 ⟨rfl, hx12⟩
  rw [F5.out]
  go_wp2_with fail
  refine (chain_c _).mono ?_
  rintro e w13 ⟨A13, n13, c13, rfl, hL13, hx13⟩
  go_wp2_with fail
  refine (refutes_c _ _ _ chainL _ _ _ [3] _ (hL13.ext ?_) (L5 _ _ ?_) (by decide) (by decide)).mono ?_
  · (repeat (first | with_reducible exact Ext.refl _ | with_reducible apply Ext.alloc | with_reducible apply Ext.drew | with_reducible apply Ext.drewN | (apply Ext.trans'; assumption)))
  · first | with_reducible rfl | simp
  rintro e w14 ⟨rfl, hx14⟩
  rw [f6]
  go_wp2_with fail
  refine (chain_c _).mono ?_
  rintro e w15 ⟨A15, n15, c15, rfl, hL15, hx15⟩
  go_wp2_with fail
  refine (refutes_c _ _ _ chainL _ _ _ [4] _ (hL15.ext ?_) (L6 _ _ ?_) (by decide) (by decide)).mono ?_
  · (repeat (first | with_reducible exact Ext.refl _ | with_reducible apply Ext.alloc | with_reducible apply Ext.drew | with_reducible apply Ext.drewN | (apply Ext.trans'; assumption)))
  · first | with_reducible rfl | simp
  rintro e w16 ⟨rfl, hx16⟩
  rw [f7]
  go_wp2_with fail
  refine (refutes_c _ _ _ [] _ _ _ [4, -4] _ (RowsSl.nil _) (L7 _ _ ?_) (by decide) (by decide)).mono ?_
  · first | with_reducible rfl | simp
  rintro e w17 ⟨rfl, hx17⟩
  rw [f8]
  go_wp2_with fail
  go_ret
  exact ⟨rfl, by (repeat (first | with_reducible exact Ext.refl _ | with_reducible apply Ext.alloc | with_reducible apply Ext.drew | with_reducible apply Ext.drewN | (apply Ext.trans'; assumption)))⟩
end Go.Proofs.Ythkjcdkdfeckbaa
