/- Layer 11's law: awake answers true, walked. -/
import Derived.Test.YtdgflniahoidmaaLr21
set_option maxRecDepth 100000
namespace Go.Proofs.Ytdgflniahoidmaa
open Go.RowKit

set_option maxRecDepth 100000 in
set_option maxHeartbeats 8000000 in
theorem awake11_c (w : World) : Calls Try.prog 6 #[] w fun e w' => e = .returned (.bool true) ∧ Ext w w' := by
  have L12 := Lib.hid (intSl_newg #[.int .i64 1, .int .i64 2] 3 [1, 2] 2 rfl rfl (by decide) (by decide))
  have L19 := Lib.hid (intSl_newg #[.int .i64 1, .int .i64 9] 3 [1, 9] 2 rfl rfl (by decide) (by decide))
  have L1 := Lib.hid (intSl_newg #[.int .i64 1] 3 [1] 1 rfl rfl (by decide) (by decide))
  have Lm := Lib.hid (intSl_newg #[.int .i64 (-1)] 3 [-1] 1 rfl rfl (by decide) (by decide))
  have L23 := Lib.hid (intSl_newg #[.int .i64 2, .int .i64 3] 3 [2, 3] 2 rfl rfl (by decide) (by decide))
  have K1 := Lib.hid awake_checks
  have K2 := Lib.hid awake_steps
  go_enter Try.func6, Try.ntmps6
  go_wp2_with fail
  refine (both_c _).mono ?_
  rintro e w1 ⟨A1, c1, rfl, hr1, hx1⟩
  have HR1 := Lib.hid hr1
  have HX1 := Lib.hid hx1
  clear hr1 hx1
  go_wp2_with fail
  refine (check_c 1 _ _ _ bothL _ _ _ [⟨1, 3, [], [1, 2]⟩] _ (HR1.out.ext (((Ext.refl w1).alloc _).alloc _)) (steps1 1 3 [] [1, 2] (by simp) (IntSl.nil _) (L12.out w1 _ rfl)) (by decide) (by decide)).mono ?_
  rintro e w2 ⟨rfl, hx2⟩
  rw [K1.out.1]
  have HX2 := Lib.hid (((HX1.out.alloc _).alloc _).trans hx2)
  clear hx2 HR1
  go_wp2_with fail
  refine (both_c _).mono ?_
  rintro e w3 ⟨A3, c3, rfl, hr3, hx3⟩
  have HR3 := Lib.hid hr3
  have HX3 := Lib.hid (HX2.out.trans hx3)
  clear hr3 hx3
  go_wp2_with fail
  refine (check_c 1 _ _ _ bothL _ _ _ [] _ HR3.out (steps_nil _) (by decide) (by decide)).mono ?_
  rintro e w4 ⟨rfl, hx4⟩
  rw [K1.out.2.1]
  have HX4 := Lib.hid (HX3.out.trans hx4)
  clear hx4 HR3
  go_wp2_with fail
  refine (both_c _).mono ?_
  rintro e w5 ⟨A5, c5, rfl, hr5, hx5⟩
  have HR5 := Lib.hid hr5
  have HX5 := Lib.hid (HX4.out.trans hx5)
  clear hr5 hx5
  go_wp2_with fail
  refine (check_c 1 _ _ _ bothL _ _ _ [⟨1, 3, [], [1, 9]⟩] _ (HR5.out.ext (((Ext.refl w5).alloc _).alloc _)) (steps1 1 3 [] [1, 9] (by simp) (IntSl.nil _) (L19.out w5 _ rfl)) (by decide) (by decide)).mono ?_
  rintro e w6 ⟨rfl, hx6⟩
  rw [K1.out.2.2.1]
  have HX6 := Lib.hid (((HX5.out.alloc _).alloc _).trans hx6)
  clear hx6 HR5
  go_wp2_with fail
  refine (both_c _).mono ?_
  rintro e w7 ⟨A7, c7, rfl, hr7, hx7⟩
  have HR7 := Lib.hid hr7
  have HX7 := Lib.hid (HX6.out.trans hx7)
  clear hr7 hx7
  go_wp2_with fail
  refine (new_c 1 _ _ _ bothL _ HR7.out (by decide)).mono ?_
  intro e w8 hret
  unfold RetNew at hret
  rw [K1.out.2.2.2, if_neg (by decide), S10_is] at hret
  obtain ⟨p, b, rfl, hm8, hp8, hb8, hx8⟩ := hret
  have HM8 := Lib.hid hm8
  have HX8 := Lib.hid (HX7.out.trans hx8)
  have HPB : Hid (w.heap.size ≤ p ∧ w.heap.size ≤ b) := by have := HX7.out.size_le; exact ⟨by omega, by omega⟩
  have HF : Hid (∀ j, ChF p b j → w.heap.size ≤ j) := fun j e => by have := HPB.out; rcases e with e | e <;> subst e <;> omega
  have I0 : Hid (Inv11 S10) := by unfold Hid; rw [← S10_is]; exact newS_inv K1.out.2.2.2 (by decide)
  have I1 : Hid (Inv11 S11) := by unfold Hid; rw [← S11_is]; exact I0.out.step _
  have I2 : Hid (Inv11 S12) := by unfold Hid; rw [← S12_is]; exact I1.out.step _
  clear hm8 hx8 HR7 hp8 hb8
  go_wp2_with fail
  refine (step1_c p b S10 2 0 [] [1] _ _ _ _ _ _ _ (HM8.out.ext ((Ext.refl _).alloc _)) I0.out (by decide) (IntSl.nil _) (L1.out w8 _ rfl) (fun _ => out_new HM8.out)).mono ?_
  rintro e w9 ⟨rfl, hm9, hst9⟩
  rw [S11_is] at hm9
  rw [K2.out.1]
  have HM9 := Lib.hid hm9
  have HX9 : Hid (Ext w w9) := (HX8.out.alloc _).then_stay hst9 HF.out
  clear hm9 hst9 HM8
  go_wp2_with fail
  refine (step1_c p b S11 2 0 [] [1] _ _ _ _ _ _ _ (HM9.out.ext ((Ext.refl _).alloc _)) I1.out (by decide) (IntSl.nil _) (L1.out w9 _ rfl) (fun _ => out_new HM9.out)).mono ?_
  rintro e w10 ⟨rfl, hm10, hst10⟩
  rw [S11_stays] at hm10
  rw [K2.out.2.1]
  have HM10 := Lib.hid hm10
  have HX10 : Hid (Ext w w10) := (HX9.out.alloc _).then_stay hst10 HF.out
  clear hm10 hst10 HM9
  go_wp2_with fail
  refine (step1_c p b S11 1 3 [-1] [] _ _ _ _ _ _ _ (HM10.out.ext ((Ext.refl _).alloc _)) I1.out (by decide) (Lm.out w10 _ rfl) (IntSl.nil _) (fun h => absurd h (by decide))).mono ?_
  rintro e w11 ⟨rfl, hm11, hst11⟩
  rw [S12_is] at hm11
  rw [K2.out.2.2.1]
  have HM11 := Lib.hid hm11
  have HX11 : Hid (Ext w w11) := (HX10.out.alloc _).then_stay hst11 HF.out
  clear hm11 hst11 HM10
  go_wp2_with fail
  refine (Clause_c _ p b S12 HM11.out I2.out 3 (by decide)).mono ?_
  rintro e w12 ⟨v12, rfl, hv12, hx12⟩
  rw [K2.out.2.2.2.1] at hv12 ⊢
  obtain ⟨A12, n12, c12, rfl, hs12, _⟩ := hv12.slc (by decide) (by decide)
  have HS12 := Lib.hid hs12
  have HM12 := Lib.hid (HM11.out.ext hx12)
  have HX12 := Lib.hid (HX11.out.trans hx12)
  clear hv12 hs12 hx12 HM11
  go_wp2_with fail
  refine (same_c _ _ _ [-1] _ _ _ [-1] _ (HS12.out.ext ((Ext.refl _).alloc _)) (Lm.out w12 _ rfl)).mono ?_
  rintro e w13 ⟨rfl, hx13⟩
  rw [show sameV [-1] [-1] = true from rfl]
  have HM13 := Lib.hid (HM12.out.ext (((Ext.refl _).alloc _).trans hx13))
  have HX13 := Lib.hid ((HX12.out.alloc _).trans hx13)
  clear hx13 HM12
  go_wp2_with fail
  refine (ids_c _ p b S12 HM13.out I2.out).mono ?_
  rintro e w14 ⟨v14, rfl, hv14, hx14⟩
  rw [K2.out.2.2.2.2] at hv14
  obtain ⟨A14, n14, c14, rfl, hs14, _⟩ := hv14.slc (by decide) (by decide)
  have HS14 := Lib.hid hs14
  have HM14 := Lib.hid (HM13.out.ext hx14)
  have HX14 := Lib.hid (HX13.out.trans hx14)
  clear hv14 hs14 hx14 HM13
  go_wp2_with fail
  refine (same_c _ _ _ [2, 3] _ _ _ [2, 3] _ (HS14.out.ext ((Ext.refl _).alloc _)) (L23.out w14 _ rfl)).mono ?_
  rintro e w15 ⟨rfl, hx15⟩
  rw [show sameV [2, 3] [2, 3] = true from rfl]
  have HM15 := Lib.hid (HM14.out.ext (((Ext.refl _).alloc _).trans hx15))
  have HX15 := Lib.hid ((HX14.out.alloc _).trans hx15)
  clear hx15 HM14
  go_wp2_with fail
  refine (done_c _ p b S12 HM15.out).mono ?_
  rintro e w16 ⟨rfl, rfl⟩
  rw [show S12.done = false from rfl]
  go_wp2_with fail
  refine (stepNil_c _ _ rfl).mono ?_
  rintro e w17 ⟨rfl, hx17⟩
  have HX17 := Lib.hid (HX15.out.trans hx17)
  clear hx17
  go_wp2_with fail
  refine (doneNil_c _).mono ?_
  rintro e w18 ⟨rfl, rfl⟩
  go_wp2_with fail
  go_ret
  exact ⟨ret_bool (by rfl), HX17.out⟩
end Go.Proofs.Ytdgflniahoidmaa
