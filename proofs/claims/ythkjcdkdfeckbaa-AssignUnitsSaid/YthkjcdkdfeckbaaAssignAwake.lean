/- replevinlaw03.awake answers true. -/
import Derived.Test.YthkjcdkdfeckbaaAssign4
import Derived.Test.YthkjcdkdfeckbaaAssign6
import Derived.Test.YthkjcdkdfeckbaaAssign7
import Derived.Test.YthkjcdkdfeckbaaNew
import Derived.Test.YthkjcdkdfeckbaaEq3
namespace Go.Proofs.Ythkjcdkdfeckbaa
open Go.RowKit

set_option maxHeartbeats 1000000 in
theorem law03awake_c (w : World) : Calls Try.prog 27 #[] w fun e w' => e = .returned (.bool true) ∧ Ext w w' := by
  have a0 : unitU [1, -2] [-1, 2, 3] = 3 := by decide +kernel
  have a1 : unitB [1, -2] [-1, 2, 3] = true := by decide +kernel
  have a2 : unitU [1, -2] [-1, 3, 4] = 0 := by decide +kernel
  have a3 : unitB [1, -2] [-1, 3, 4] = false := by decide +kernel
  have a4 : valueV [1, -2] 2 = -1 := by decide +kernel
  have a5 : valueV [1, -2] 1 = 1 := by decide +kernel
  have a6 : valueV [1, -2] 3 = 0 := by decide +kernel
  have a7 : clauseV [1, -2] [-1, 2] = -1 := by decide +kernel
  have a8 : clauseV [1, -2] [-1, 3] = 0 := by decide +kernel
  have a9 : clauseV [1, -2] [3, 1] = 1 := by decide +kernel
  have a10 : cnV [1, -2] [1, 2, 3, 4] 1 = 1 := by decide +kernel
  have a11 : cnV [1, -2] [1, 2, 3, 4] (-1) = 1 := by decide +kernel
  have a12 : cnV [1, -2] [1, 2, 3, 4] 0 = 2 := by decide +kernel
  have a13 : fullV [1, -2] 2 = true := by decide +kernel
  have a14 : fullV [1, -2] 3 = false := by decide +kernel
  have a15 : sameB (modelV [1, -2] 3) [true, false, false] = true := by decide +kernel
  have a16 : sameV (litsV [true, false]) [1, -2] = true := by decide +kernel
  have a17 : assignV [1, -2] 2 = 0 := by decide +kernel
  have a18 : assignV [1, -1] 2 = 21 := by decide +kernel
  have a19 : assignV [3] 2 = 10 := by decide +kernel
  have L0 := intSl_newg #[.int .i64 1, .int .i64 (-2)] 3 [1, -2] 2 rfl rfl (by decide) (by decide)
  have L1 := intSl_newg #[.int .i64 (-1), .int .i64 2, .int .i64 3] 3 [-1, 2, 3] 3 rfl rfl (by decide) (by decide)
  have L2 := intSl_newg #[.int .i64 (-1), .int .i64 3, .int .i64 4] 3 [-1, 3, 4] 3 rfl rfl (by decide) (by decide)
  have L3 := intSl_newg #[.int .i64 (-1), .int .i64 2] 3 [-1, 2] 2 rfl rfl (by decide) (by decide)
  have L4 := intSl_newg #[.int .i64 (-1), .int .i64 3] 3 [-1, 3] 2 rfl rfl (by decide) (by decide)
  have L5 := intSl_newg #[.int .i64 3, .int .i64 1] 3 [3, 1] 2 rfl rfl (by decide) (by decide)
  have L6 := intSl_newg #[.int .i64 1, .int .i64 2, .int .i64 3, .int .i64 4] 3 [1, 2, 3, 4] 4 rfl rfl (by decide) (by decide)
  have L7 := intSl_newg #[.int .i64 1, .int .i64 (-1)] 3 [1, -1] 2 rfl rfl (by decide) (by decide)
  have L8 := intSl_newg #[.int .i64 3] 3 [3] 1 rfl rfl (by decide) (by decide)
  have B1 := boolSl_newg #[.bool true, .bool false, .bool false] 4 [true, false, false] 3 rfl rfl (by decide)
  have B2 := boolSl_newg #[.bool true, .bool false] 4 [true, false] 2 rfl rfl (by decide)
  have he3 := fun W : World => eq3 W 1 1 2
  go_enter Try.func27, Try.ntmps27
  go_wp2_with (first
    | (go_at_call 28; (with_reducible refine (unit_c _ 2 _ [1, -2] _ _ _ [-1, 2, 3] _ ?_ (L1 _ _ ?_) (by decide)).mono ?_); (refine (L0 w _ rfl).ext ?_); (repeat (first | with_reducible exact Ext.refl _ | with_reducible apply Ext.alloc | with_reducible apply Ext.drew | (apply Ext.trans'; assumption))); (first | with_reducible rfl | simp); rintro e w1 ⟨rfl, hx1⟩)
    | (go_at_call 28; (with_reducible refine (unit_c _ 2 _ [1, -2] _ _ _ [-1, 3, 4] _ ?_ (L2 _ _ ?_) (by decide)).mono ?_); (refine (L0 w _ rfl).ext ?_); (repeat (first | with_reducible exact Ext.refl _ | with_reducible apply Ext.alloc | with_reducible apply Ext.drew | (apply Ext.trans'; assumption))); (first | with_reducible rfl | simp); rintro e w2 ⟨rfl, hx2⟩)
    | (go_at_call 31; (with_reducible refine (value_c _ 2 _ [1, -2] 2 _ ?_).mono ?_); (refine (L0 w _ rfl).ext ?_); (repeat (first | with_reducible exact Ext.refl _ | with_reducible apply Ext.alloc | with_reducible apply Ext.drew | (apply Ext.trans'; assumption))); rintro e w' ⟨rfl, rfl⟩)
    | (go_at_call 31; (with_reducible refine (value_c _ 2 _ [1, -2] 1 _ ?_).mono ?_); (refine (L0 w _ rfl).ext ?_); (repeat (first | with_reducible exact Ext.refl _ | with_reducible apply Ext.alloc | with_reducible apply Ext.drew | (apply Ext.trans'; assumption))); rintro e w' ⟨rfl, rfl⟩)
    | (go_at_call 31; (with_reducible refine (value_c _ 2 _ [1, -2] 3 _ ?_).mono ?_); (refine (L0 w _ rfl).ext ?_); (repeat (first | with_reducible exact Ext.refl _ | with_reducible apply Ext.alloc | with_reducible apply Ext.drew | (apply Ext.trans'; assumption))); rintro e w' ⟨rfl, rfl⟩)
    | (go_at_call 33; (with_reducible refine (clause_c _ 2 _ [1, -2] _ _ _ [-1, 2] _ ?_ (L3 _ _ ?_) (by decide)).mono ?_); (refine (L0 w _ rfl).ext ?_); (repeat (first | with_reducible exact Ext.refl _ | with_reducible apply Ext.alloc | with_reducible apply Ext.drew | (apply Ext.trans'; assumption))); (first | with_reducible rfl | simp); rintro e w6 ⟨rfl, hx6⟩)
    | (go_at_call 33; (with_reducible refine (clause_c _ 2 _ [1, -2] _ _ _ [-1, 3] _ ?_ (L4 _ _ ?_) (by decide)).mono ?_); (refine (L0 w _ rfl).ext ?_); (repeat (first | with_reducible exact Ext.refl _ | with_reducible apply Ext.alloc | with_reducible apply Ext.drew | (apply Ext.trans'; assumption))); (first | with_reducible rfl | simp); rintro e w7 ⟨rfl, hx7⟩)
    | (go_at_call 33; (with_reducible refine (clause_c _ 2 _ [1, -2] _ _ _ [3, 1] _ ?_ (L5 _ _ ?_) (by decide)).mono ?_); (refine (L0 w _ rfl).ext ?_); (repeat (first | with_reducible exact Ext.refl _ | with_reducible apply Ext.alloc | with_reducible apply Ext.drew | (apply Ext.trans'; assumption))); (first | with_reducible rfl | simp); rintro e w8 ⟨rfl, hx8⟩)
    | (go_at_call 34; (with_reducible refine (count_c _ 2 _ [1, -2] _ _ _ [1, 2, 3, 4] _ ?_ (L6 _ _ ?_) (by decide)).mono ?_); (refine (L0 w _ rfl).ext ?_); (repeat (first | with_reducible exact Ext.refl _ | with_reducible apply Ext.alloc | with_reducible apply Ext.drew | (apply Ext.trans'; assumption))); (first | with_reducible rfl | simp); rintro e w9 ⟨rfl, hx9⟩)
    | (go_at_call 41; (with_reducible refine (full_c _ 2 _ [1, -2] 2 _ ?_ (by decide) (by decide) (by decide)).mono ?_); (refine (L0 w _ rfl).ext ?_); (repeat (first | with_reducible exact Ext.refl _ | with_reducible apply Ext.alloc | with_reducible apply Ext.drew | (apply Ext.trans'; assumption))); rintro e w10 ⟨rfl, hx10⟩)
    | (go_at_call 41; (with_reducible refine (full_c _ 2 _ [1, -2] 3 _ ?_ (by decide) (by decide) (by decide)).mono ?_); (refine (L0 w _ rfl).ext ?_); (repeat (first | with_reducible exact Ext.refl _ | with_reducible apply Ext.alloc | with_reducible apply Ext.drew | (apply Ext.trans'; assumption))); rintro e w11 ⟨rfl, hx11⟩)
    | (go_at_call 37; (with_reducible refine (model_c _ 2 _ [1, -2] 3 _ ?_ (by decide)).mono ?_); (refine (L0 w _ rfl).ext ?_); (repeat (first | with_reducible exact Ext.refl _ | with_reducible apply Ext.alloc | with_reducible apply Ext.drew | (apply Ext.trans'; assumption))); rintro e w12 ⟨A12, m12, c12, rfl, hsm, hx12⟩; have hsm' := hsm.ext ((Ext.refl _).alloc (.cells #[.bool true, .bool false, .bool false] 4)))
    | (go_at_call 36; (with_reducible refine (sameB_c _ _ _ (modelV [1, -2] 3) _ _ _ [true, false, false] _ hsm' (B1 _ _ ?_)).mono ?_); (first | with_reducible rfl | simp); rintro e w13 ⟨rfl, hx13⟩)
    | (go_at_call 39; (with_reducible refine (from_list_c _ _ _ [true, false] _ (B2 _ _ ?_)).mono ?_); (first | with_reducible rfl | simp); rintro e w14 ⟨A14, m14, c14, rfl, hsf, hx14⟩)
    | (go_at_call 16; (with_reducible refine (same_c _ _ _ (litsV [true, false]) _ _ _ [1, -2] _ hsf ?_).mono ?_); (refine (L0 w _ rfl).ext ?_); (repeat (first | with_reducible exact Ext.refl _ | with_reducible apply Ext.alloc | with_reducible apply Ext.drew | (apply Ext.trans'; assumption))); rintro e w15 ⟨rfl, hx15⟩)
    | (go_at_call 30; (with_reducible refine (acheck_c _ 2 _ [1, -2] 2 _ ?_ (by decide) (by decide) (by decide)).mono ?_); (refine (L0 w _ rfl).ext ?_); (repeat (first | with_reducible exact Ext.refl _ | with_reducible apply Ext.alloc | with_reducible apply Ext.drew | (apply Ext.trans'; assumption))); rintro e w16 ⟨rfl, hx16⟩)
    | (go_at_call 30; (with_reducible refine (acheck_c _ 2 _ [1, -1] 2 _ (L7 _ _ ?_) (by decide) (by decide) (by decide)).mono ?_); (first | with_reducible rfl | simp); rintro e w17 ⟨rfl, hx17⟩)
    | (go_at_call 30; (with_reducible refine (acheck_c _ 1 _ [3] 2 _ (L8 _ _ ?_) (by decide) (by decide) (by decide)).mono ?_); (first | with_reducible rfl | simp); rintro e w18 ⟨rfl, hx18⟩))
  go_ret
  exact ⟨rfl, by repeat (first | with_reducible exact Ext.refl _ | with_reducible apply Ext.alloc | with_reducible apply Ext.drew | (apply Ext.trans'; assumption))⟩
end Go.Proofs.Ythkjcdkdfeckbaa
