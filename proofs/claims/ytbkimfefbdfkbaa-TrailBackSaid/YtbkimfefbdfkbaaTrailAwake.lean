/- replevinlaw13.awake answers true. -/
import Derived.Test.YtbkimfefbdfkbaaTrail14
import Derived.Test.YtbkimfefbdfkbaaSl
set_option maxRecDepth 100000
namespace Go.Proofs.Ytbkimfefbdfkbaa
open Go.RowKit

def sA : TSt := ⟨3, [], 0⟩
def sB : TSt := decT sA 1
def sC : TSt := impT sB 2 7
def sD : TSt := decT sC (-3)
def sE : TSt := decT sD 3
def sF : TSt := impT sE 4 0
def sG : TSt := backT sF 1
theorem awake13_facts : mayV sA 1 = 0 ∧ impE sB 2 7 = 0 ∧ mayV sC (-3) = 0 ∧ mayV sD 3 = 21 ∧ impE sE 4 0 = 10 ∧ litsT sF.rows = [1, 2, -3] ∧ backO sF 1 = [-3] ∧ sG.depth = 1 := by decide +kernel
theorem awake13_facts2 : valT sG.rows 2 = 1 ∧ valT sG.rows (-1) = -1 ∧ valT sG.rows 3 = 0 ∧ levelV sG.rows 2 = 1 ∧ reasonV sG.rows 2 = 7 ∧ reasonV sG.rows 1 = -1 ∧ placeV sG.rows 2 = 1 ∧ levelV sG.rows 3 = -1 ∧ sG.vars - (sG.rows.length : Nat) = 1 := by decide +kernel

set_option maxRecDepth 100000 in
set_option maxHeartbeats 4000000 in
theorem law13awake_c (w : World) : Calls Try.prog 7 #[] w fun e w' => e = .returned (.bool true) ∧ Ext w w' := by
  have L1 := intSl_newg #[.int .i64 1, .int .i64 2, .int .i64 (-3)] 3 [1, 2, -3] 3 rfl rfl (by decide) (by decide)
  have L2 := intSl_newg #[.int .i64 (-3)] 3 [-3] 1 rfl rfl (by decide) (by decide)
  obtain ⟨f1, f2, f3, f4, f5, f6, f7, f8⟩ := awake13_facts
  obtain ⟨g1, g2, g3, g4, g5, g6, g7, g8, g9⟩ := awake13_facts2
  have s1 : sameV [1, 2, -3] [1, 2, -3] = true := by decide
  have s2 : sameV [-3] [-3] = true := by decide
  go_enter Try.func7, Try.ntmps7
  go_wp2_with fail
  refine (trNew_c 3 w).mono ?_
  rintro e w1 ⟨_, hnew⟩
  obtain ⟨p, gm, rfl, hT1, hx1⟩ := hnew (by decide)
  have HX1 := Lib.hid hx1
  have HT1 := Lib.hid hT1
  clear hnew hx1 hT1
  go_wp2_with fail
  refine (trDecideS_c _ _ p gm _ _ sA 0 1 HT1.out (by decide)).mono ?_
  rintro e w2 ⟨rfl, lv2, bv2, hT2, hS2, _⟩
  rw [f1]
  have HT2 := Lib.hid hT2
  have HX2 := Lib.hid (HT1.out.ext_of HX1.out (Nat.le_refl _) hS2)
  clear hT2 hS2
  go_wp2_with fail
  refine (trImplyS_c _ _ p gm _ _ sB 1 2 7 HT2.out (by decide) (by decide)).mono ?_
  rintro e w3 ⟨rfl, lv3, bv3, hT3, hS3, _⟩
  rw [f2]
  have HT3 := Lib.hid hT3
  have HX3 := Lib.hid (HT2.out.ext_of HX2.out (Nat.le_refl _) hS3)
  clear hT3 hS3
  go_wp2_with fail
  refine (trDecideS_c _ _ p gm _ _ sC 2 (-3) HT3.out (by decide)).mono ?_
  rintro e w4 ⟨rfl, lv4, bv4, hT4, hS4, _⟩
  rw [f3]
  have HT4 := Lib.hid hT4
  have HX4 := Lib.hid (HT3.out.ext_of HX3.out (Nat.le_refl _) hS4)
  clear hT4 hS4
  go_wp2_with fail
  refine (trDecideS_c _ _ p gm _ _ sD 3 3 HT4.out (by decide)).mono ?_
  rintro e w5 ⟨rfl, lv5, bv5, hT5, hS5, _⟩
  rw [f4]
  have HT5 := Lib.hid hT5
  have HX5 := Lib.hid (HT4.out.ext_of HX4.out (Nat.le_refl _) hS5)
  clear hT5 hS5
  go_wp2_with fail
  refine (trImplyS_c _ _ p gm _ _ sE 4 4 0 HT5.out (by decide) (by decide)).mono ?_
  rintro e w6 ⟨rfl, lv6, bv6, hT6, hS6, _⟩
  rw [f5]
  have HT6 := Lib.hid hT6
  have HX6 := Lib.hid (HT5.out.ext_of HX5.out (Nat.le_refl _) hS6)
  clear hT6 hS6
  go_wp2_with fail
  refine (trLitsS_c _ _ p gm _ _ sF 5 HT6.out).mono ?_
  rintro e w7 ⟨v7, rfl, ho7, hx7⟩
  rw [f6] at ho7
  obtain ⟨A7, n7, c7, rfl, hs7⟩ := ho7.sl (by decide) (by decide)
  have HT7 := Lib.hid (HT6.out.ext hx7)
  have HX7 := Lib.hid (HX6.out.trans hx7)
  have HS7 := Lib.hid hs7
  have hout7 : ∀ ad, A7 = some ad → w6.heap.size ≤ ad.block := fun ad e => by subst e; exact (ho7.blk ad.block rfl).1
  have HO7 := Lib.hid hout7
  clear ho7 hx7 hs7 hout7
  go_wp2_with fail
  refine (trBackS_c _ _ p gm _ _ sF 5 1 HT7.out (by decide) (by decide)).mono ?_
  rintro e w8 ⟨v8, rfl, ho8, lv8, bv8, hT8, hS8, _⟩
  rw [f7] at ho8
  obtain ⟨A8, n8, c8, rfl, hs8⟩ := ho8.sl (by decide) (by decide)
  have hs78 : IntSl w8 A7 n7 [1, 2, -3] := HS7.out.stay hS8 (fun ad e hf => by have := HO7.out ad e; have := (HT6.out.lt hf).2; omega)
  have HT8 := Lib.hid hT8
  have HX8 := Lib.hid (HT7.out.ext_of HX7.out (Nat.le_refl _) hS8)
  have HS78 := Lib.hid hs78
  have HS8 := Lib.hid hs8
  clear hT8 hS8 ho8 hs8 hs78
  go_wp2_with fail
  refine (trNew_c (-1) _).mono ?_
  rintro e w' ⟨hnew, _⟩
  obtain ⟨rfl, rfl⟩ := hnew (by decide)
  clear hnew
  go_wp2_with fail
  refine (same_c _ _ _ [1, 2, -3] _ _ _ [1, 2, -3] _ (HS78.out.ext ?_) (L1 _ _ ?_)).mono ?_
  · (repeat (first | with_reducible exact Ext.refl _ | with_reducible apply Ext.alloc | with_reducible apply Ext.drew | with_reducible apply Ext.drewN | (apply Ext.trans'; assumption)))
  · first | with_reducible rfl | simp
  rintro e w9 ⟨rfl, hx9⟩
  rw [s1]
  go_wp2_with fail
  refine (same_c _ _ _ [-3] _ _ _ [-3] _ (HS8.out.ext ?_) (L2 _ _ ?_)).mono ?_
  · (repeat (first | with_reducible exact Ext.refl _ | with_reducible apply Ext.alloc | with_reducible apply Ext.drew | with_reducible apply Ext.drewN | (apply Ext.trans'; assumption)))
  · first | with_reducible rfl | simp
  rintro e w10 ⟨rfl, hx10⟩
  rw [s2]
  go_wp2_with fail
  refine (trDepthS_c _ _ p gm _ _ sG 6 (HT8.out.ext ?_)).mono ?_
  · (repeat (first | with_reducible exact Ext.refl _ | with_reducible apply Ext.alloc | with_reducible apply Ext.drew | with_reducible apply Ext.drewN | (apply Ext.trans'; assumption)))
  rintro e w11 ⟨rfl, hx11⟩
  rw [f8]
  go_wp2_with fail
  refine (trValueS_c _ _ p gm _ _ sG 6 2 (HT8.out.ext ?_) (by decide) (by decide)).mono ?_
  · (repeat (first | with_reducible exact Ext.refl _ | with_reducible apply Ext.alloc | with_reducible apply Ext.drew | with_reducible apply Ext.drewN | (apply Ext.trans'; assumption)))
  rintro e w12 ⟨rfl, hx12⟩
  rw [g1]
  go_wp2_with fail
  refine (trValueS_c _ _ p gm _ _ sG 6 (-1) (HT8.out.ext ?_) (by decide) (by decide)).mono ?_
  · (repeat (first | with_reducible exact Ext.refl _ | with_reducible apply Ext.alloc | with_reducible apply Ext.drew | with_reducible apply Ext.drewN | (apply Ext.trans'; assumption)))
  rintro e w13 ⟨rfl, hx13⟩
  rw [g2]
  go_wp2_with fail
  refine (trValueS_c _ _ p gm _ _ sG 6 3 (HT8.out.ext ?_) (by decide) (by decide)).mono ?_
  · (repeat (first | with_reducible exact Ext.refl _ | with_reducible apply Ext.alloc | with_reducible apply Ext.drew | with_reducible apply Ext.drewN | (apply Ext.trans'; assumption)))
  rintro e w14 ⟨rfl, hx14⟩
  rw [g3]
  go_wp2_with fail
  refine (trLevelS_c _ _ p gm _ _ sG 6 2 (HT8.out.ext ?_)).mono ?_
  · (repeat (first | with_reducible exact Ext.refl _ | with_reducible apply Ext.alloc | with_reducible apply Ext.drew | with_reducible apply Ext.drewN | (apply Ext.trans'; assumption)))
  rintro e w15 ⟨rfl, hx15⟩
  rw [g4]
  go_wp2_with fail
  refine (trReasonS_c _ _ p gm _ _ sG 6 2 (HT8.out.ext ?_)).mono ?_
  · (repeat (first | with_reducible exact Ext.refl _ | with_reducible apply Ext.alloc | with_reducible apply Ext.drew | with_reducible apply Ext.drewN | (apply Ext.trans'; assumption)))
  rintro e w16 ⟨rfl, hx16⟩
  rw [g5]
  go_wp2_with fail
  refine (trReasonS_c _ _ p gm _ _ sG 6 1 (HT8.out.ext ?_)).mono ?_
  · (repeat (first | with_reducible exact Ext.refl _ | with_reducible apply Ext.alloc | with_reducible apply Ext.drew | with_reducible apply Ext.drewN | (apply Ext.trans'; assumption)))
  rintro e w17 ⟨rfl, hx17⟩
  rw [g6]
  go_wp2_with fail
  refine (trPlaceS_c _ _ p gm _ _ sG 6 2 (HT8.out.ext ?_)).mono ?_
  · (repeat (first | with_reducible exact Ext.refl _ | with_reducible apply Ext.alloc | with_reducible apply Ext.drew | with_reducible apply Ext.drewN | (apply Ext.trans'; assumption)))
  rintro e w18 ⟨rfl, hx18⟩
  rw [g7]
  go_wp2_with fail
  refine (trLevelS_c _ _ p gm _ _ sG 6 3 (HT8.out.ext ?_)).mono ?_
  · (repeat (first | with_reducible exact Ext.refl _ | with_reducible apply Ext.alloc | with_reducible apply Ext.drew | with_reducible apply Ext.drewN | (apply Ext.trans'; assumption)))
  rintro e w19 ⟨rfl, hx19⟩
  rw [g8]
  go_wp2_with fail
  refine (trOpenS_c _ _ p gm _ _ sG 6 (HT8.out.ext ?_)).mono ?_
  · (repeat (first | with_reducible exact Ext.refl _ | with_reducible apply Ext.alloc | with_reducible apply Ext.drew | with_reducible apply Ext.drewN | (apply Ext.trans'; assumption)))
  rintro e w20 ⟨rfl, hx20⟩
  rw [g9]
  go_wp2_with fail
  refine (trDecideNil_c 1 _).mono ?_
  rintro e w' ⟨rfl, rfl⟩
  go_wp2_with fail
  refine (trLevelNil_c 1 _).mono ?_
  rintro e w21 ⟨rfl, hx21⟩
  go_wp2_with fail
  go_ret
  refine ⟨rfl, HX8.out.trans ?_⟩
  (repeat (first | with_reducible exact Ext.refl _ | with_reducible apply Ext.alloc | with_reducible apply Ext.drew | with_reducible apply Ext.drewN | (apply Ext.trans'; assumption)))
end Go.Proofs.Ytbkimfefbdfkbaa
