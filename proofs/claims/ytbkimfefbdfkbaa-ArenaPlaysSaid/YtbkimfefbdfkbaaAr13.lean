/- Layer 13 (arena): awake. -/
import Derived.Test.YtbkimfefbdfkbaaAr12
import Derived.Test.YtbkimfefbdfkbaaAr11
import Derived.Deep.QuietTactic
set_option maxRecDepth 100000
namespace Go.Proofs.Ytbkimfefbdfkbaa
open Go.RowKit

theorem ArNext.thr {w0 w1 w2 : World} {base p mb K : Nat} {lv : Value} {S : ASt} {K' : Nat} {S' : ASt} (hm : ArMem w1 base p mb lv K S) (hb : w0.heap.size ≤ base) (hx : Ext w0 w1) (hn : ArNext w1 w2 base p mb lv K' S') : Ext w0 w2 := by
  obtain ⟨_, _, _, hs, _⟩ := hn
  exact Stay.ext (Stay.ext_trans hx hs) fun b hb' => by have := (hm.lt hb').1; omega
theorem ArMem.out_new {w : World} {base p mb K : Nat} {lv : Value} {S : ASt} (h : ArMem w base p mb lv K S) (a : Addr) (ha : w.heap.size ≤ a.block) : Out (ArF p mb lv) (some a) := by
  intro ad hb hf
  have := (h.lt hf).2
  cases hb
  omega
theorem ownI_sl {w : World} {b n c : Nat} {A : Option Addr} {xs : List Int} (h : OwnI w b (.slice A n c) xs) (hn : xs.length ≤ 9223372036854775807) (hx : ∀ x ∈ xs, -9223372036854775808 ≤ x ∧ x ≤ 9223372036854775807) : IntSl w A n xs := by
  obtain ⟨A', n', c', e, h'⟩ := h.sl hn hx
  cases e
  exact h'
theorem ownI_arStay {w0 w w' : World} {base p mb K : Nat} {lv : Value} {S : ASt} {v : Value} {xs : List Int} (hm : ArMem w0 base p mb lv K S) (ho : OwnI w w0.heap.size v xs) (hs : Stay (ArF p mb lv) w w') : OwnI w' w0.heap.size v xs :=
  ho.stay hs fun k e hf => by have := (ho.blk k e).1; have := (hm.lt hf).2; omega

set_option maxRecDepth 100000 in
set_option maxHeartbeats 8000000 in
theorem law12awake_c (w : World) : Calls Try.prog 25 #[] w fun e w' => e = .returned (.bool true) ∧ Ext w w' := by
  have L12 := Lib.hid (intSl_newg #[.int .i64 1, .int .i64 (-2)] 3 [1, -2] 2 rfl rfl (by decide) (by decide))
  have L3 := Lib.hid (intSl_newg #[.int .i64 3] 3 [3] 1 rfl rfl (by decide) (by decide))
  have L21 := Lib.hid (intSl_newg #[.int .i64 (-2), .int .i64 1] 3 [-2, 1] 2 rfl rfl (by decide) (by decide))
  have L5 := Lib.hid (intSl_newg #[.int .i64 5] 3 [5] 1 rfl rfl (by decide) (by decide))
  have L0 := Lib.hid (intSl_newg #[.int .i64 0] 3 [0] 1 rfl rfl (by decide) (by decide))
  have AF := Lib.hid awake12_facts
  have AD := Lib.hid awake12_drop
  go_enter Try.func25, Try.ntmps25
  go_wp2_with fail
  refine (arNew_c _).mono ?_
  rintro e w1 ⟨rfl, hm1, hx1⟩
  have HM1 : Hid (ArMem w1 w.heap.size (w.heap.size + 1) w.heap.size (.slice none 0 0) 0 sA0) := hm1
  have HX1 := Lib.hid hx1
  clear hm1 hx1
  generalize hb : w.heap.size = base at HM1 ⊢
  generalize hp : base + 1 = p at HM1 ⊢
  have HB := Lib.hid hb
  clear hb hp
  go_wp2_with fail
  refine (arPut_c _ base p _ _ 0 sA0 7 _ _ _ [1, -2] false (HM1.out.ext (by (repeat (first | with_reducible exact Ext.refl _ | with_reducible apply Ext.alloc | with_reducible apply Ext.drew | with_reducible apply Ext.drewN | (apply Ext.trans'; assumption))))) (L12.out w1 _ rfl) (fun _ => ?_) (by omega)).mono ?_
  · exact HM1.out.out_new _ (Nat.le_refl _)
  rintro e w2 ⟨rfl, hn⟩
  have HX2 := Lib.hid (ArNext.thr (HM1.out.ext (by (repeat (first | with_reducible exact Ext.refl _ | with_reducible apply Ext.alloc | with_reducible apply Ext.drew | with_reducible apply Ext.drewN | (apply Ext.trans'; assumption))))) (by rw [HB.out]; exact Nat.le_refl _) (HX1.out.trans (by (repeat (first | with_reducible exact Ext.refl _ | with_reducible apply Ext.alloc | with_reducible apply Ext.drew | with_reducible apply Ext.drewN | (apply Ext.trans'; assumption))))) hn)
  obtain ⟨lv2, mb2, hm2, _, _⟩ := hn
  have HM2 := Lib.hid hm2
  clear hm2
  rw [AF.out.1, AF.out.2.1]
  go_wp2_with fail
  refine (arPut_c _ base p _ _ 1 sA1 8 _ _ _ [3] true (HM2.out.ext (by (repeat (first | with_reducible exact Ext.refl _ | with_reducible apply Ext.alloc | with_reducible apply Ext.drew | with_reducible apply Ext.drewN | (apply Ext.trans'; assumption))))) (L3.out w2 _ rfl) (fun _ => ?_) (by omega)).mono ?_
  · exact HM2.out.out_new _ (Nat.le_refl _)
  rintro e w3 ⟨rfl, hn⟩
  have HX3 := Lib.hid (ArNext.thr (HM2.out.ext (by (repeat (first | with_reducible exact Ext.refl _ | with_reducible apply Ext.alloc | with_reducible apply Ext.drew | with_reducible apply Ext.drewN | (apply Ext.trans'; assumption))))) (by rw [HB.out]; exact Nat.le_refl _) (HX2.out.trans (by (repeat (first | with_reducible exact Ext.refl _ | with_reducible apply Ext.alloc | with_reducible apply Ext.drew | with_reducible apply Ext.drewN | (apply Ext.trans'; assumption))))) hn)
  obtain ⟨lv3, mb3, hm3, _, _⟩ := hn
  have HM3 := Lib.hid hm3
  clear hm3
  rw [AF.out.2.2.1, AF.out.2.2.2.1]
  go_wp2_with fail
  refine (arSwap_c _ base p _ _ 2 sA2 0 0 1 HM3.out (by decide) (by omega)).mono ?_
  rintro e w4 ⟨rfl, hn⟩
  have HX4 := Lib.hid (ArNext.thr HM3.out (by rw [HB.out]; exact Nat.le_refl _) HX3.out hn)
  obtain ⟨lv4, mb4, hm4, _, _⟩ := hn
  have HM4 := Lib.hid hm4
  clear hm4
  rw [AF.out.2.2.2.2.1]
  go_wp2_with fail
  refine (arLits_c _ base p _ _ 3 sA3 0 HM4.out (by decide)).mono ?_
  rintro e w5 ⟨v5, rfl, ho5, hx5⟩
  rw [AF.out.2.2.2.2.2.1] at ho5
  obtain ⟨A5, n5, c5, rfl⟩ := ho5.form
  have HX5 := Lib.hid (HX4.out.trans hx5)
  have HM5 := Lib.hid (HM4.out.ext hx5)
  have HO5 := Lib.hid ho5
  clear ho5 hx5
  go_wp2_with fail
  refine (arSize_c _ base p _ _ 3 sA3 HM5.out).mono ?_
  rintro e w5' ⟨rfl, rfl⟩
  rw [AF.out.2.2.2.2.2.2.1]
  go_wp2_with fail
  refine (arDrop_c _ base p _ _ 3 sA3 0 HM5.out (by decide) (by omega)).mono ?_
  rintro e w6 ⟨rfl, hn⟩
  have HX6 := Lib.hid (ArNext.thr HM5.out (by rw [HB.out]; exact Nat.le_refl _) HX5.out hn)
  obtain ⟨lv6, mb6, hm6, hs6, hnew6⟩ := hn
  have HM6 := Lib.hid hm6
  have HO6 := Lib.hid (ownI_arStay HM4.out HO5.out hs6)
  clear hm6 hs6
  rw [AF.out.2.2.2.2.2.2.2.1]
  go_wp2_with fail
  refine (arCompact_c _ base p _ _ 4 sA4 HM6.out (by omega)).mono ?_
  rintro e w7 ⟨v7, rfl, ho7, hnv⟩
  have hn := hnv.next
  have HX7 := Lib.hid (ArNext.thr HM6.out (by rw [HB.out]; exact Nat.le_refl _) HX6.out hn)
  obtain ⟨lv7, mb7, hm7, hs7, hnew7⟩ := hn
  rw [AF.out.2.2.2.2.2.2.2.2.1] at ho7
  obtain ⟨A7, n7, c7, rfl⟩ := ho7.form
  have HM7 := Lib.hid hm7
  have hl7 := ownI_sl (HO6.out.stay hs7 fun k e hf => by have := (HO6.out.blk k e).1; rcases hnew6 k hf with h | h; (have := (HM4.out.lt h).2; omega); (have h2 := (HO5.out.blk k e).2; omega)) (by decide) (by decide)
  have hk7 := ownI_sl ho7 (by decide) (by decide)
  have HL7 := Lib.hid hl7
  have HK7 := Lib.hid hk7
  clear hm7 hs7 ho7 hl7 hk7
  go_wp2_with fail
  refine (arPutNil_c _ _ _ _ _ _).mono ?_
  rintro e w7' ⟨rfl, rfl⟩
  go_wp2_with fail
  refine (same_c _ _ _ [-2, 1] _ _ _ [-2, 1] _ (HL7.out.ext ((Ext.refl _).alloc _)) (L21.out w7 _ rfl)).mono ?_
  rintro e w8 ⟨rfl, hx8⟩
  rw [show sameV ([-2, 1] : List Int) [-2, 1] = true from rfl]
  have HX8 := Lib.hid (Ext.trans ((Ext.refl w7).alloc _) hx8)
  clear hx8
  go_wp2_with fail
  refine (same_c _ _ _ [5] _ _ _ [5] _ ((HK7.out.ext HX8.out).ext ((Ext.refl _).alloc _)) (L5.out w8 _ rfl)).mono ?_
  rintro e w9 ⟨rfl, hx9⟩
  rw [show sameV ([5] : List Int) [5] = true from rfl]
  have HX9 := Lib.hid (HX8.out.trans (Ext.trans ((Ext.refl w8).alloc _) hx9))
  have HM9 : Hid (ArMem w9 base p mb7 lv7 5 sA5) := HM7.out.ext HX9.out
  clear hx9
  go_wp2_with fail
  refine (arId_c _ base p _ _ 5 sA5 0 HM9.out (by decide)).mono ?_
  rintro e w9' ⟨rfl, rfl⟩
  rw [AF.out.2.2.2.2.2.2.2.2.2.1]
  go_wp2_with fail
  refine (arLearnt_c _ base p _ _ 5 sA5 0 HM9.out (by decide)).mono ?_
  rintro e w9' ⟨rfl, rfl⟩
  rw [AF.out.2.2.2.2.2.2.2.2.2.2.1]
  go_wp2_with fail
  refine (arSize_c _ base p _ _ 5 sA5 HM9.out).mono ?_
  rintro e w9' ⟨rfl, rfl⟩
  rw [AF.out.2.2.2.2.2.2.2.2.2.2.2.1]
  go_wp2_with fail
  refine (arDrop_c _ base p _ _ 5 sA5 5 HM9.out (by decide) (by omega)).mono ?_
  rintro e w10 ⟨rfl, hn⟩
  rw [AD.out] at hn
  rw [AF.out.2.2.2.2.2.2.2.2.2.2.2.2.1]
  have HX10 := Lib.hid (ArNext.thr HM9.out (by rw [HB.out]; exact Nat.le_refl _) (HX7.out.trans HX9.out) hn)
  obtain ⟨lv10, mb10, hm10, _, _⟩ := hn
  have HM10 := Lib.hid hm10
  clear hm10
  go_wp2_with fail
  refine (arAll_c _ base p _ _ 6 sA5 HM10.out).mono ?_
  rintro e w11 ⟨v11, rfl, ho11, hx11⟩
  rw [AF.out.2.2.2.2.2.2.2.2.2.2.2.2.2] at ho11
  obtain ⟨A11, n11, c11, rfl⟩ := ho11.form
  have HL11 := Lib.hid (ownI_sl ho11 (by decide) (by decide))
  have HX11 := Lib.hid (HX10.out.trans hx11)
  clear ho11 hx11
  go_wp2_with fail
  refine (same_c _ _ _ [0] _ _ _ [0] _ (HL11.out.ext ((Ext.refl _).alloc _)) (L0.out w11 _ rfl)).mono ?_
  rintro e w12 ⟨rfl, hx12⟩
  rw [show sameV ([0] : List Int) [0] = true from rfl]
  have HX12 := Lib.hid (HX11.out.trans (Ext.trans ((Ext.refl w11).alloc _) hx12))
  clear hx12
  go_wp2_with fail
  refine (arSizeNil_c _).mono ?_
  rintro e w12' ⟨rfl, rfl⟩
  go_wp2_with fail
  go_ret
  exact ⟨rfl, HX12.out⟩
end Go.Proofs.Ytbkimfefbdfkbaa
