/- replevinlaw09.awake answers true. -/
import Derived.Test.YtdhohoabcokdjaaRat3
import Derived.Test.YtdhohoabcokdjaaRup4
set_option maxRecDepth 100000
namespace Go.Proofs.Ytdhohoabcokdjaa
open Go.RowKit

def eachL (x : Int) : Option (List (List Int)) := if x = 1 then some [[2]] else none
theorem aw9_facts : ratShow [[2, 3]] [1] [] (fun _ => none) = (0, 0) ∧ ratShow [[2, 3], [-1, 2]] [1] [] (fun _ => none) = (1, 24) ∧ ratShow [[2, 3], [-1, 2], [2]] [1, 3] [] eachL = (1, 0) ∧ ratShow [] [] [] (fun _ => none) = (-1, 11) ∧
    candV 1 [[2], [-1, 2], [-1]] = [1, 2] ∧ refuteV [] [-1, 2] 1 [[2]] = 0 ∧ refuteV [] [-1, 2] 1 [] = 24 ∧ flipV [true, false] [-1, 2, 9] = [false, true] := by decide +kernel

theorem rows_one {w : World} {g g' : Nat} (h : Blk w g' 3 #[.int .i64 2]) (h' : Blk w g 22 #[.slice (some ⟨g', 0, none⟩) 1 1]) : RowsSl w (some ⟨g, 0, none⟩) 1 [[2]] := by
  refine ⟨rfl, by decide, fun _ => ⟨_, rfl, fun j xs hj => ?_⟩⟩
  cases j with
  | zero =>
    have e0 : ((⟨g, 0, none⟩ : Addr).add 0) = ⟨g, 0, none⟩ := rfl
    have hx : xs = [2] := by simpa using hj.symm
    subst hx
    refine ⟨some ⟨g', 0, none⟩, 1, 1, ?_, h.ints (n := 1) (xs := [2]) rfl (by decide) (by decide) (fun j x hj => ?_) (cap := 1) (by decide)⟩
    · rw [e0, h'.cell]; rfl
    · cases j with
      | zero => simp at hj; subst hj; rfl
      | succ j => simp at hj
  | succ j => simp at hj
theorem mapR_one {w : World} {b : Nat} {A : Option Addr} {c : Nat} (h : MapV w b 1 (fun u => if u = 1 then some (.slice A 1 c) else none)) (hr : RowsSl w A 1 [[2]]) : MapR w (.map (some b)) eachL := by
  refine ⟨_, fun W hW x hx => (h.ext hW).look x hx, fun x => ?_⟩
  by_cases e : x = 1
  · subst e; exact ⟨A, 1, c, rfl, by decide, hr⟩
  · unfold eachL; simp only [if_neg e]

set_option maxRecDepth 100000 in
set_option maxHeartbeats 4000000 in
theorem law09awake_c (w : World) : Calls Try.prog 26 #[] w fun e w' => e = .returned (.bool true) ∧ Ext w w' := by
  have L23 := Lib.hid (intSl_newg #[.int .i64 2, .int .i64 3] 3 [2, 3] 2 rfl rfl (by decide) (by decide))
  have L12 := Lib.hid (intSl_newg #[.int .i64 (-1), .int .i64 2] 3 [-1, 2] 2 rfl rfl (by decide) (by decide))
  have L1 := Lib.hid (intSl_newg #[.int .i64 1] 3 [1] 1 rfl rfl (by decide) (by decide))
  have L2 := Lib.hid (intSl_newg #[.int .i64 2] 3 [2] 1 rfl rfl (by decide) (by decide))
  have Lm1 := Lib.hid (intSl_newg #[.int .i64 (-1)] 3 [-1] 1 rfl rfl (by decide) (by decide))
  have L13 := Lib.hid (intSl_newg #[.int .i64 1, .int .i64 3] 3 [1, 3] 2 rfl rfl (by decide) (by decide))
  have Lp12 := Lib.hid (intSl_newg #[.int .i64 1, .int .i64 2] 3 [1, 2] 2 rfl rfl (by decide) (by decide))
  have L129 := Lib.hid (intSl_newg #[.int .i64 (-1), .int .i64 2, .int .i64 9] 3 [-1, 2, 9] 3 rfl rfl (by decide) (by decide))
  have Btf := Lib.hid (boolSl_newg #[.bool true, .bool false] 4 [true, false] 2 rfl rfl (by decide))
  have Bft := Lib.hid (boolSl_newg #[.bool false, .bool true] 4 [false, true] 2 rfl rfl (by decide))
  have FF := Lib.hid aw9_facts
  have s1 : sameV [1, 2] [1, 2] = true := by decide
  have s2 : sameB [false, true] [false, true] = true := by decide
  have S1 := Lib.hid s1
  have S2 := Lib.hid s2
  clear s1 s2
  go_enter Try.func26, Try.ntmps26
  have r1 := ((rowsSl_newg (w := (w.alloc (Obj.cells #[.int .i64 2, .int .i64 3] 3))) (g := w.heap.size + 1) [.slice (some ⟨w.heap.size, 0, none⟩) 2 2] 22 [[2, 3]] 1 rfl (by decide) (by simp) (RowVals.cons ((L23.out w (w.heap.size) (by simp)).ext (show Ext (w.alloc (Obj.cells #[.int .i64 2, .int .i64 3] 3)) (w.alloc (Obj.cells #[.int .i64 2, .int .i64 3] 3)) by (repeat (first | with_reducible exact Ext.refl _ | with_reducible apply Ext.alloc | with_reducible apply Ext.drew | with_reducible apply Ext.drewN | (apply Ext.trans'; assumption))))) (RowVals.nil _)) : RowsSl ((w.alloc (Obj.cells #[.int .i64 2, .int .i64 3] 3)).alloc (Obj.cells #[.slice (some ⟨w.heap.size, 0, none⟩) 2 2] 22)) (some ⟨w.heap.size + 1, 0, none⟩) 1 [[2, 3]]).ext (show Ext ((w.alloc (Obj.cells #[.int .i64 2, .int .i64 3] 3)).alloc (Obj.cells #[.slice (some ⟨w.heap.size, 0, none⟩) 2 2] 22)) (((w.alloc (Obj.cells #[.int .i64 2, .int .i64 3] 3)).alloc (Obj.cells #[.slice (some ⟨w.heap.size, 0, none⟩) 2 2] 22)).alloc (Obj.cells #[.int .i64 1] 3)) by (repeat (first | with_reducible exact Ext.refl _ | with_reducible apply Ext.alloc | with_reducible apply Ext.drew | with_reducible apply Ext.drewN | (apply Ext.trans'; assumption)))))
  have i1 := ((L1.out ((w.alloc (Obj.cells #[.int .i64 2, .int .i64 3] 3)).alloc (Obj.cells #[.slice (some ⟨w.heap.size, 0, none⟩) 2 2] 22)) (w.heap.size + 1 + 1) (by simp)).ext (show Ext (((w.alloc (Obj.cells #[.int .i64 2, .int .i64 3] 3)).alloc (Obj.cells #[.slice (some ⟨w.heap.size, 0, none⟩) 2 2] 22)).alloc (Obj.cells #[.int .i64 1] 3)) (((w.alloc (Obj.cells #[.int .i64 2, .int .i64 3] 3)).alloc (Obj.cells #[.slice (some ⟨w.heap.size, 0, none⟩) 2 2] 22)).alloc (Obj.cells #[.int .i64 1] 3)) by (repeat (first | with_reducible exact Ext.refl _ | with_reducible apply Ext.alloc | with_reducible apply Ext.drew | with_reducible apply Ext.drewN | (apply Ext.trans'; assumption)))))
  have R1 := Lib.hid r1
  have I1 := Lib.hid i1
  clear r1 i1
  go_wp2_with fail
  refine (ratShow_c _ _ _ [[2, 3]] _ _ _ [1] _ _ _ [] none (fun _ => none) _ R1.out I1.out (RowsSl.nil _) (MapR.nil _) (by decide) (by decide) (by decide) (by decide)).mono ?_
  rintro e w1 ⟨rfl, hx1⟩
  rw [FF.out.1]
  have r2 := ((rowsSl_newg (w := ((w1.alloc (Obj.cells #[.int .i64 2, .int .i64 3] 3)).alloc (Obj.cells #[.int .i64 (-1), .int .i64 2] 3))) (g := w1.heap.size + 1 + 1) [.slice (some ⟨w1.heap.size, 0, none⟩) 2 2, .slice (some ⟨w1.heap.size + 1, 0, none⟩) 2 2] 22 [[2, 3], [-1, 2]] 2 rfl (by decide) (by simp) (RowVals.cons ((L23.out w1 (w1.heap.size) (by simp)).ext (show Ext (w1.alloc (Obj.cells #[.int .i64 2, .int .i64 3] 3)) ((w1.alloc (Obj.cells #[.int .i64 2, .int .i64 3] 3)).alloc (Obj.cells #[.int .i64 (-1), .int .i64 2] 3)) by (repeat (first | with_reducible exact Ext.refl _ | with_reducible apply Ext.alloc | with_reducible apply Ext.drew | with_reducible apply Ext.drewN | (apply Ext.trans'; assumption))))) (RowVals.cons ((L12.out (w1.alloc (Obj.cells #[.int .i64 2, .int .i64 3] 3)) (w1.heap.size + 1) (by simp)).ext (show Ext ((w1.alloc (Obj.cells #[.int .i64 2, .int .i64 3] 3)).alloc (Obj.cells #[.int .i64 (-1), .int .i64 2] 3)) ((w1.alloc (Obj.cells #[.int .i64 2, .int .i64 3] 3)).alloc (Obj.cells #[.int .i64 (-1), .int .i64 2] 3)) by (repeat (first | with_reducible exact Ext.refl _ | with_reducible apply Ext.alloc | with_reducible apply Ext.drew | with_reducible apply Ext.drewN | (apply Ext.trans'; assumption))))) (RowVals.nil _))) : RowsSl (((w1.alloc (Obj.cells #[.int .i64 2, .int .i64 3] 3)).alloc (Obj.cells #[.int .i64 (-1), .int .i64 2] 3)).alloc (Obj.cells #[.slice (some ⟨w1.heap.size, 0, none⟩) 2 2, .slice (some ⟨w1.heap.size + 1, 0, none⟩) 2 2] 22)) (some ⟨w1.heap.size + 1 + 1, 0, none⟩) 2 [[2, 3], [-1, 2]]).ext (show Ext (((w1.alloc (Obj.cells #[.int .i64 2, .int .i64 3] 3)).alloc (Obj.cells #[.int .i64 (-1), .int .i64 2] 3)).alloc (Obj.cells #[.slice (some ⟨w1.heap.size, 0, none⟩) 2 2, .slice (some ⟨w1.heap.size + 1, 0, none⟩) 2 2] 22)) ((((w1.alloc (Obj.cells #[.int .i64 2, .int .i64 3] 3)).alloc (Obj.cells #[.int .i64 (-1), .int .i64 2] 3)).alloc (Obj.cells #[.slice (some ⟨w1.heap.size, 0, none⟩) 2 2, .slice (some ⟨w1.heap.size + 1, 0, none⟩) 2 2] 22)).alloc (Obj.cells #[.int .i64 1] 3)) by (repeat (first | with_reducible exact Ext.refl _ | with_reducible apply Ext.alloc | with_reducible apply Ext.drew | with_reducible apply Ext.drewN | (apply Ext.trans'; assumption)))))
  have i2 := ((L1.out (((w1.alloc (Obj.cells #[.int .i64 2, .int .i64 3] 3)).alloc (Obj.cells #[.int .i64 (-1), .int .i64 2] 3)).alloc (Obj.cells #[.slice (some ⟨w1.heap.size, 0, none⟩) 2 2, .slice (some ⟨w1.heap.size + 1, 0, none⟩) 2 2] 22)) (w1.heap.size + 1 + 1 + 1) (by simp)).ext (show Ext ((((w1.alloc (Obj.cells #[.int .i64 2, .int .i64 3] 3)).alloc (Obj.cells #[.int .i64 (-1), .int .i64 2] 3)).alloc (Obj.cells #[.slice (some ⟨w1.heap.size, 0, none⟩) 2 2, .slice (some ⟨w1.heap.size + 1, 0, none⟩) 2 2] 22)).alloc (Obj.cells #[.int .i64 1] 3)) ((((w1.alloc (Obj.cells #[.int .i64 2, .int .i64 3] 3)).alloc (Obj.cells #[.int .i64 (-1), .int .i64 2] 3)).alloc (Obj.cells #[.slice (some ⟨w1.heap.size, 0, none⟩) 2 2, .slice (some ⟨w1.heap.size + 1, 0, none⟩) 2 2] 22)).alloc (Obj.cells #[.int .i64 1] 3)) by (repeat (first | with_reducible exact Ext.refl _ | with_reducible apply Ext.alloc | with_reducible apply Ext.drew | with_reducible apply Ext.drewN | (apply Ext.trans'; assumption)))))
  have HX1 : Hid (Ext w w1) := by (repeat (first | with_reducible exact Ext.refl _ | with_reducible apply Ext.alloc | with_reducible apply Ext.drew | with_reducible apply Ext.drewN | (apply Ext.trans'; assumption)))
  have R2 := Lib.hid r2
  have I2 := Lib.hid i2
  clear r2 i2
  go_wp2_with fail
  refine (ratShow_c _ _ _ [[2, 3], [-1, 2]] _ _ _ [1] _ _ _ [] none (fun _ => none) _ R2.out I2.out (RowsSl.nil _) (MapR.nil _) (by decide) (by decide) (by decide) (by decide)).mono ?_
  rintro e w2 ⟨rfl, hx2⟩
  rw [FF.out.2.1]
  have r3 := ((rowsSl_newg (w := (((w2.alloc (Obj.cells #[.int .i64 2, .int .i64 3] 3)).alloc (Obj.cells #[.int .i64 (-1), .int .i64 2] 3)).alloc (Obj.cells #[.int .i64 2] 3))) (g := w2.heap.size + 1 + 1 + 1) [.slice (some ⟨w2.heap.size, 0, none⟩) 2 2, .slice (some ⟨w2.heap.size + 1, 0, none⟩) 2 2, .slice (some ⟨w2.heap.size + 1 + 1, 0, none⟩) 1 1] 22 [[2, 3], [-1, 2], [2]] 3 rfl (by decide) (by simp) (RowVals.cons ((L23.out w2 (w2.heap.size) (by simp)).ext (show Ext (w2.alloc (Obj.cells #[.int .i64 2, .int .i64 3] 3)) (((w2.alloc (Obj.cells #[.int .i64 2, .int .i64 3] 3)).alloc (Obj.cells #[.int .i64 (-1), .int .i64 2] 3)).alloc (Obj.cells #[.int .i64 2] 3)) by (repeat (first | with_reducible exact Ext.refl _ | with_reducible apply Ext.alloc | with_reducible apply Ext.drew | with_reducible apply Ext.drewN | (apply Ext.trans'; assumption))))) (RowVals.cons ((L12.out (w2.alloc (Obj.cells #[.int .i64 2, .int .i64 3] 3)) (w2.heap.size + 1) (by simp)).ext (show Ext ((w2.alloc (Obj.cells #[.int .i64 2, .int .i64 3] 3)).alloc (Obj.cells #[.int .i64 (-1), .int .i64 2] 3)) (((w2.alloc (Obj.cells #[.int .i64 2, .int .i64 3] 3)).alloc (Obj.cells #[.int .i64 (-1), .int .i64 2] 3)).alloc (Obj.cells #[.int .i64 2] 3)) by (repeat (first | with_reducible exact Ext.refl _ | with_reducible apply Ext.alloc | with_reducible apply Ext.drew | with_reducible apply Ext.drewN | (apply Ext.trans'; assumption))))) (RowVals.cons ((L2.out ((w2.alloc (Obj.cells #[.int .i64 2, .int .i64 3] 3)).alloc (Obj.cells #[.int .i64 (-1), .int .i64 2] 3)) (w2.heap.size + 1 + 1) (by simp)).ext (show Ext (((w2.alloc (Obj.cells #[.int .i64 2, .int .i64 3] 3)).alloc (Obj.cells #[.int .i64 (-1), .int .i64 2] 3)).alloc (Obj.cells #[.int .i64 2] 3)) (((w2.alloc (Obj.cells #[.int .i64 2, .int .i64 3] 3)).alloc (Obj.cells #[.int .i64 (-1), .int .i64 2] 3)).alloc (Obj.cells #[.int .i64 2] 3)) by (repeat (first | with_reducible exact Ext.refl _ | with_reducible apply Ext.alloc | with_reducible apply Ext.drew | with_reducible apply Ext.drewN | (apply Ext.trans'; assumption))))) (RowVals.nil _)))) : RowsSl ((((w2.alloc (Obj.cells #[.int .i64 2, .int .i64 3] 3)).alloc (Obj.cells #[.int .i64 (-1), .int .i64 2] 3)).alloc (Obj.cells #[.int .i64 2] 3)).alloc (Obj.cells #[.slice (some ⟨w2.heap.size, 0, none⟩) 2 2, .slice (some ⟨w2.heap.size + 1, 0, none⟩) 2 2, .slice (some ⟨w2.heap.size + 1 + 1, 0, none⟩) 1 1] 22)) (some ⟨w2.heap.size + 1 + 1 + 1, 0, none⟩) 3 [[2, 3], [-1, 2], [2]]).ext (show Ext ((((w2.alloc (Obj.cells #[.int .i64 2, .int .i64 3] 3)).alloc (Obj.cells #[.int .i64 (-1), .int .i64 2] 3)).alloc (Obj.cells #[.int .i64 2] 3)).alloc (Obj.cells #[.slice (some ⟨w2.heap.size, 0, none⟩) 2 2, .slice (some ⟨w2.heap.size + 1, 0, none⟩) 2 2, .slice (some ⟨w2.heap.size + 1 + 1, 0, none⟩) 1 1] 22)) (((((w2.alloc (Obj.cells #[.int .i64 2, .int .i64 3] 3)).alloc (Obj.cells #[.int .i64 (-1), .int .i64 2] 3)).alloc (Obj.cells #[.int .i64 2] 3)).alloc (Obj.cells #[.slice (some ⟨w2.heap.size, 0, none⟩) 2 2, .slice (some ⟨w2.heap.size + 1, 0, none⟩) 2 2, .slice (some ⟨w2.heap.size + 1 + 1, 0, none⟩) 1 1] 22)).alloc (Obj.cells #[.int .i64 1, .int .i64 3] 3)) by (repeat (first | with_reducible exact Ext.refl _ | with_reducible apply Ext.alloc | with_reducible apply Ext.drew | with_reducible apply Ext.drewN | (apply Ext.trans'; assumption)))))
  have i3 := ((L13.out ((((w2.alloc (Obj.cells #[.int .i64 2, .int .i64 3] 3)).alloc (Obj.cells #[.int .i64 (-1), .int .i64 2] 3)).alloc (Obj.cells #[.int .i64 2] 3)).alloc (Obj.cells #[.slice (some ⟨w2.heap.size, 0, none⟩) 2 2, .slice (some ⟨w2.heap.size + 1, 0, none⟩) 2 2, .slice (some ⟨w2.heap.size + 1 + 1, 0, none⟩) 1 1] 22)) (w2.heap.size + 1 + 1 + 1 + 1) (by simp)).ext (show Ext (((((w2.alloc (Obj.cells #[.int .i64 2, .int .i64 3] 3)).alloc (Obj.cells #[.int .i64 (-1), .int .i64 2] 3)).alloc (Obj.cells #[.int .i64 2] 3)).alloc (Obj.cells #[.slice (some ⟨w2.heap.size, 0, none⟩) 2 2, .slice (some ⟨w2.heap.size + 1, 0, none⟩) 2 2, .slice (some ⟨w2.heap.size + 1 + 1, 0, none⟩) 1 1] 22)).alloc (Obj.cells #[.int .i64 1, .int .i64 3] 3)) (((((w2.alloc (Obj.cells #[.int .i64 2, .int .i64 3] 3)).alloc (Obj.cells #[.int .i64 (-1), .int .i64 2] 3)).alloc (Obj.cells #[.int .i64 2] 3)).alloc (Obj.cells #[.slice (some ⟨w2.heap.size, 0, none⟩) 2 2, .slice (some ⟨w2.heap.size + 1, 0, none⟩) 2 2, .slice (some ⟨w2.heap.size + 1 + 1, 0, none⟩) 1 1] 22)).alloc (Obj.cells #[.int .i64 1, .int .i64 3] 3)) by (repeat (first | with_reducible exact Ext.refl _ | with_reducible apply Ext.alloc | with_reducible apply Ext.drew | with_reducible apply Ext.drewN | (apply Ext.trans'; assumption)))))
  have HX2 : Hid (Ext w w2) := HX1.out.trans (by (repeat (first | with_reducible exact Ext.refl _ | with_reducible apply Ext.alloc | with_reducible apply Ext.drew | with_reducible apply Ext.drewN | (apply Ext.trans'; assumption))))
  have hszb : ((((((w2.alloc (Obj.cells #[.int .i64 2, .int .i64 3] 3)).alloc (Obj.cells #[.int .i64 (-1), .int .i64 2] 3)).alloc (Obj.cells #[.int .i64 2] 3)).alloc (Obj.cells #[.slice (some ⟨w2.heap.size, 0, none⟩) 2 2, .slice (some ⟨w2.heap.size + 1, 0, none⟩) 2 2, .slice (some ⟨w2.heap.size + 1 + 1, 0, none⟩) 1 1] 22)).alloc (Obj.cells #[.int .i64 1, .int .i64 3] 3))).heap.size = w2.heap.size + 1 + 1 + 1 + 1 + 1 := by simp
  have mv0 : MapV ((((((w2.alloc (Obj.cells #[.int .i64 2, .int .i64 3] 3)).alloc (Obj.cells #[.int .i64 (-1), .int .i64 2] 3)).alloc (Obj.cells #[.int .i64 2] 3)).alloc (Obj.cells #[.slice (some ⟨w2.heap.size, 0, none⟩) 2 2, .slice (some ⟨w2.heap.size + 1, 0, none⟩) 2 2, .slice (some ⟨w2.heap.size + 1 + 1, 0, none⟩) 1 1] 22)).alloc (Obj.cells #[.int .i64 1, .int .i64 3] 3)).alloc (.map #[] 0)) (w2.heap.size + 1 + 1 + 1 + 1 + 1) 0 (fun _ => none) := by have := MapV.made ((((((w2.alloc (Obj.cells #[.int .i64 2, .int .i64 3] 3)).alloc (Obj.cells #[.int .i64 (-1), .int .i64 2] 3)).alloc (Obj.cells #[.int .i64 2] 3)).alloc (Obj.cells #[.slice (some ⟨w2.heap.size, 0, none⟩) 2 2, .slice (some ⟨w2.heap.size + 1, 0, none⟩) 2 2, .slice (some ⟨w2.heap.size + 1 + 1, 0, none⟩) 1 1] 22)).alloc (Obj.cells #[.int .i64 1, .int .i64 3] 3))); rw [hszb] at this; exact this
  have mv : MapV ((((((((w2.alloc (Obj.cells #[.int .i64 2, .int .i64 3] 3)).alloc (Obj.cells #[.int .i64 (-1), .int .i64 2] 3)).alloc (Obj.cells #[.int .i64 2] 3)).alloc (Obj.cells #[.slice (some ⟨w2.heap.size, 0, none⟩) 2 2, .slice (some ⟨w2.heap.size + 1, 0, none⟩) 2 2, .slice (some ⟨w2.heap.size + 1 + 1, 0, none⟩) 1 1] 22)).alloc (Obj.cells #[.int .i64 1, .int .i64 3] 3)).alloc (.map #[] 0)).alloc (Obj.cells #[.int .i64 2] 3)).alloc (Obj.cells #[.slice (some ⟨w2.heap.size + 1 + 1 + 1 + 1 + 1 + 1, 0, none⟩) 1 1] 22)) (w2.heap.size + 1 + 1 + 1 + 1 + 1) 0 (fun _ => none) := mv0.ext (by (repeat (first | with_reducible exact Ext.refl _ | with_reducible apply Ext.alloc | with_reducible apply Ext.drew | with_reducible apply Ext.drewN | (apply Ext.trans'; assumption))))
  have bk1 : Blk ((((((((w2.alloc (Obj.cells #[.int .i64 2, .int .i64 3] 3)).alloc (Obj.cells #[.int .i64 (-1), .int .i64 2] 3)).alloc (Obj.cells #[.int .i64 2] 3)).alloc (Obj.cells #[.slice (some ⟨w2.heap.size, 0, none⟩) 2 2, .slice (some ⟨w2.heap.size + 1, 0, none⟩) 2 2, .slice (some ⟨w2.heap.size + 1 + 1, 0, none⟩) 1 1] 22)).alloc (Obj.cells #[.int .i64 1, .int .i64 3] 3)).alloc (.map #[] 0)).alloc (Obj.cells #[.int .i64 2] 3)).alloc (Obj.cells #[.slice (some ⟨w2.heap.size + 1 + 1 + 1 + 1 + 1 + 1, 0, none⟩) 1 1] 22)) (w2.heap.size + 1 + 1 + 1 + 1 + 1 + 1) 3 #[.int .i64 2] := (Blk.newg (w := ((((((w2.alloc (Obj.cells #[.int .i64 2, .int .i64 3] 3)).alloc (Obj.cells #[.int .i64 (-1), .int .i64 2] 3)).alloc (Obj.cells #[.int .i64 2] 3)).alloc (Obj.cells #[.slice (some ⟨w2.heap.size, 0, none⟩) 2 2, .slice (some ⟨w2.heap.size + 1, 0, none⟩) 2 2, .slice (some ⟨w2.heap.size + 1 + 1, 0, none⟩) 1 1] 22)).alloc (Obj.cells #[.int .i64 1, .int .i64 3] 3)).alloc (.map #[] 0))) 3 #[.int .i64 2] (by simp)).alloc _
  have bk2 : Blk ((((((((w2.alloc (Obj.cells #[.int .i64 2, .int .i64 3] 3)).alloc (Obj.cells #[.int .i64 (-1), .int .i64 2] 3)).alloc (Obj.cells #[.int .i64 2] 3)).alloc (Obj.cells #[.slice (some ⟨w2.heap.size, 0, none⟩) 2 2, .slice (some ⟨w2.heap.size + 1, 0, none⟩) 2 2, .slice (some ⟨w2.heap.size + 1 + 1, 0, none⟩) 1 1] 22)).alloc (Obj.cells #[.int .i64 1, .int .i64 3] 3)).alloc (.map #[] 0)).alloc (Obj.cells #[.int .i64 2] 3)).alloc (Obj.cells #[.slice (some ⟨w2.heap.size + 1 + 1 + 1 + 1 + 1 + 1, 0, none⟩) 1 1] 22)) (w2.heap.size + 1 + 1 + 1 + 1 + 1 + 1 + 1) 22 #[.slice (some ⟨w2.heap.size + 1 + 1 + 1 + 1 + 1 + 1, 0, none⟩) 1 1] := Blk.newg (w := (((((((w2.alloc (Obj.cells #[.int .i64 2, .int .i64 3] 3)).alloc (Obj.cells #[.int .i64 (-1), .int .i64 2] 3)).alloc (Obj.cells #[.int .i64 2] 3)).alloc (Obj.cells #[.slice (some ⟨w2.heap.size, 0, none⟩) 2 2, .slice (some ⟨w2.heap.size + 1, 0, none⟩) 2 2, .slice (some ⟨w2.heap.size + 1 + 1, 0, none⟩) 1 1] 22)).alloc (Obj.cells #[.int .i64 1, .int .i64 3] 3)).alloc (.map #[] 0)).alloc (Obj.cells #[.int .i64 2] 3))) 22 _ (by simp)
  have xm : Ext ((((((w2.alloc (Obj.cells #[.int .i64 2, .int .i64 3] 3)).alloc (Obj.cells #[.int .i64 (-1), .int .i64 2] 3)).alloc (Obj.cells #[.int .i64 2] 3)).alloc (Obj.cells #[.slice (some ⟨w2.heap.size, 0, none⟩) 2 2, .slice (some ⟨w2.heap.size + 1, 0, none⟩) 2 2, .slice (some ⟨w2.heap.size + 1 + 1, 0, none⟩) 1 1] 22)).alloc (Obj.cells #[.int .i64 1, .int .i64 3] 3))) ((((((((w2.alloc (Obj.cells #[.int .i64 2, .int .i64 3] 3)).alloc (Obj.cells #[.int .i64 (-1), .int .i64 2] 3)).alloc (Obj.cells #[.int .i64 2] 3)).alloc (Obj.cells #[.slice (some ⟨w2.heap.size, 0, none⟩) 2 2, .slice (some ⟨w2.heap.size + 1, 0, none⟩) 2 2, .slice (some ⟨w2.heap.size + 1 + 1, 0, none⟩) 1 1] 22)).alloc (Obj.cells #[.int .i64 1, .int .i64 3] 3)).alloc (.map #[] 0)).alloc (Obj.cells #[.int .i64 2] 3)).alloc (Obj.cells #[.slice (some ⟨w2.heap.size + 1 + 1 + 1 + 1 + 1 + 1, 0, none⟩) 1 1] 22)) := by (repeat (first | with_reducible exact Ext.refl _ | with_reducible apply Ext.alloc | with_reducible apply Ext.drew | with_reducible apply Ext.drewN | (apply Ext.trans'; assumption)))
  have x5 : Ext w2 ((((((w2.alloc (Obj.cells #[.int .i64 2, .int .i64 3] 3)).alloc (Obj.cells #[.int .i64 (-1), .int .i64 2] 3)).alloc (Obj.cells #[.int .i64 2] 3)).alloc (Obj.cells #[.slice (some ⟨w2.heap.size, 0, none⟩) 2 2, .slice (some ⟨w2.heap.size + 1, 0, none⟩) 2 2, .slice (some ⟨w2.heap.size + 1 + 1, 0, none⟩) 1 1] 22)).alloc (Obj.cells #[.int .i64 1, .int .i64 3] 3))) := by (repeat (first | with_reducible exact Ext.refl _ | with_reducible apply Ext.alloc | with_reducible apply Ext.drew | with_reducible apply Ext.drewN | (apply Ext.trans'; assumption)))
  have R3 := Lib.hid r3
  have I3 := Lib.hid i3
  have MV := Lib.hid mv
  have BK1 := Lib.hid bk1
  have BK2 := Lib.hid bk2
  have HSZB := Lib.hid hszb
  have XM := Lib.hid xm
  have X5 := Lib.hid x5
  have hmk := fun (W : World) => run_makeMap_none (P := Try.prog) 62 W
  clear r3 i3 mv0 mv bk1 bk2 hszb xm x5
  go_wp2_with (refine wpList_insV _ rfl (.tmp 30) _ (.tmp 32) rfl (w2.heap.size + 1 + 1 + 1 + 1 + 1) 0 (fun _ => none) rfl MV.out (by decide) 1 _ rfl rfl (by decide) ?_; intro w3 hm3 hg3; have HM3 := Lib.hid hm3; have HG3 := Lib.hid hg3; clear hm3 hg3)
  have X53 : Ext ((((((w2.alloc (Obj.cells #[.int .i64 2, .int .i64 3] 3)).alloc (Obj.cells #[.int .i64 (-1), .int .i64 2] 3)).alloc (Obj.cells #[.int .i64 2] 3)).alloc (Obj.cells #[.slice (some ⟨w2.heap.size, 0, none⟩) 2 2, .slice (some ⟨w2.heap.size + 1, 0, none⟩) 2 2, .slice (some ⟨w2.heap.size + 1 + 1, 0, none⟩) 1 1] 22)).alloc (Obj.cells #[.int .i64 1, .int .i64 3] 3))) w3 := Ext.grown XM.out HG3.out (by intro k hk; cases hk; rw [HSZB.out]; exact Nat.le_refl _)
  refine (ratShow_c _ _ _ [[2, 3], [-1, 2], [2]] _ _ _ [1, 3] _ _ _ [] (some (w2.heap.size + 1 + 1 + 1 + 1 + 1)) eachL _ (R3.out.ext X53) (I3.out.ext X53) (RowsSl.nil _) (mapR_one HM3.out (rows_one (g' := w2.heap.size + 1 + 1 + 1 + 1 + 1 + 1) (g := w2.heap.size + 1 + 1 + 1 + 1 + 1 + 1 + 1) (BK1.out.grown HG3.out (by intro e; injection e; omega)) (BK2.out.grown HG3.out (by intro e; injection e; omega)))) (by decide) (by decide) (by decide) (by decide)).mono ?_
  rintro e w4 ⟨rfl, hx4⟩
  rw [FF.out.2.2.1]
  have HX4 : Hid (Ext w w4) := HX2.out.trans (X5.out.trans (X53.trans hx4))
  clear hx1 hx2 hx4 X53 hmk
  go_wp2_with fail
  refine (ratShow_c none 0 0 [] none 0 0 [] none 0 0 [] none (fun _ => none) _ (RowsSl.nil _) (IntSl.nil _) (RowsSl.nil _) (MapR.nil _) (by decide) (by decide) (by decide) (by decide)).mono ?_
  rintro e w5 ⟨rfl, hx5⟩
  rw [FF.out.2.2.2.1]
  have r5 := ((rowsSl_newg (w := (((w5.alloc (Obj.cells #[.int .i64 2] 3)).alloc (Obj.cells #[.int .i64 (-1), .int .i64 2] 3)).alloc (Obj.cells #[.int .i64 (-1)] 3))) (g := w5.heap.size + 1 + 1 + 1) [.slice (some ⟨w5.heap.size, 0, none⟩) 1 1, .slice (some ⟨w5.heap.size + 1, 0, none⟩) 2 2, .slice (some ⟨w5.heap.size + 1 + 1, 0, none⟩) 1 1] 22 [[2], [-1, 2], [-1]] 3 rfl (by decide) (by simp) (RowVals.cons ((L2.out w5 (w5.heap.size) (by simp)).ext (show Ext (w5.alloc (Obj.cells #[.int .i64 2] 3)) (((w5.alloc (Obj.cells #[.int .i64 2] 3)).alloc (Obj.cells #[.int .i64 (-1), .int .i64 2] 3)).alloc (Obj.cells #[.int .i64 (-1)] 3)) by (repeat (first | with_reducible exact Ext.refl _ | with_reducible apply Ext.alloc | with_reducible apply Ext.drew | with_reducible apply Ext.drewN | (apply Ext.trans'; assumption))))) (RowVals.cons ((L12.out (w5.alloc (Obj.cells #[.int .i64 2] 3)) (w5.heap.size + 1) (by simp)).ext (show Ext ((w5.alloc (Obj.cells #[.int .i64 2] 3)).alloc (Obj.cells #[.int .i64 (-1), .int .i64 2] 3)) (((w5.alloc (Obj.cells #[.int .i64 2] 3)).alloc (Obj.cells #[.int .i64 (-1), .int .i64 2] 3)).alloc (Obj.cells #[.int .i64 (-1)] 3)) by (repeat (first | with_reducible exact Ext.refl _ | with_reducible apply Ext.alloc | with_reducible apply Ext.drew | with_reducible apply Ext.drewN | (apply Ext.trans'; assumption))))) (RowVals.cons ((Lm1.out ((w5.alloc (Obj.cells #[.int .i64 2] 3)).alloc (Obj.cells #[.int .i64 (-1), .int .i64 2] 3)) (w5.heap.size + 1 + 1) (by simp)).ext (show Ext (((w5.alloc (Obj.cells #[.int .i64 2] 3)).alloc (Obj.cells #[.int .i64 (-1), .int .i64 2] 3)).alloc (Obj.cells #[.int .i64 (-1)] 3)) (((w5.alloc (Obj.cells #[.int .i64 2] 3)).alloc (Obj.cells #[.int .i64 (-1), .int .i64 2] 3)).alloc (Obj.cells #[.int .i64 (-1)] 3)) by (repeat (first | with_reducible exact Ext.refl _ | with_reducible apply Ext.alloc | with_reducible apply Ext.drew | with_reducible apply Ext.drewN | (apply Ext.trans'; assumption))))) (RowVals.nil _)))) : RowsSl ((((w5.alloc (Obj.cells #[.int .i64 2] 3)).alloc (Obj.cells #[.int .i64 (-1), .int .i64 2] 3)).alloc (Obj.cells #[.int .i64 (-1)] 3)).alloc (Obj.cells #[.slice (some ⟨w5.heap.size, 0, none⟩) 1 1, .slice (some ⟨w5.heap.size + 1, 0, none⟩) 2 2, .slice (some ⟨w5.heap.size + 1 + 1, 0, none⟩) 1 1] 22)) (some ⟨w5.heap.size + 1 + 1 + 1, 0, none⟩) 3 [[2], [-1, 2], [-1]]).ext (show Ext ((((w5.alloc (Obj.cells #[.int .i64 2] 3)).alloc (Obj.cells #[.int .i64 (-1), .int .i64 2] 3)).alloc (Obj.cells #[.int .i64 (-1)] 3)).alloc (Obj.cells #[.slice (some ⟨w5.heap.size, 0, none⟩) 1 1, .slice (some ⟨w5.heap.size + 1, 0, none⟩) 2 2, .slice (some ⟨w5.heap.size + 1 + 1, 0, none⟩) 1 1] 22)) ((((w5.alloc (Obj.cells #[.int .i64 2] 3)).alloc (Obj.cells #[.int .i64 (-1), .int .i64 2] 3)).alloc (Obj.cells #[.int .i64 (-1)] 3)).alloc (Obj.cells #[.slice (some ⟨w5.heap.size, 0, none⟩) 1 1, .slice (some ⟨w5.heap.size + 1, 0, none⟩) 2 2, .slice (some ⟨w5.heap.size + 1 + 1, 0, none⟩) 1 1] 22)) by (repeat (first | with_reducible exact Ext.refl _ | with_reducible apply Ext.alloc | with_reducible apply Ext.drew | with_reducible apply Ext.drewN | (apply Ext.trans'; assumption)))))
  have R5 := Lib.hid r5
  have HX5 := Lib.hid (HX4.out.trans hx5)
  clear r5 hx5
  go_wp2_with fail
  refine (cands_c _ _ _ [[2], [-1, 2], [-1]] _ _ R5.out (by decide)).mono ?_
  rintro e w6 ⟨v6, rfl, ho6, hx6⟩
  rw [FF.out.2.2.2.2.1] at ho6
  obtain ⟨A6, n6, c6, rfl, h6⟩ := ho6.sl (by decide) (by decide)
  have H6 := Lib.hid h6
  have HX6 : Hid (Ext w w6) := HX5.out.trans (Ext.trans (by (repeat (first | with_reducible exact Ext.refl _ | with_reducible apply Ext.alloc | with_reducible apply Ext.drew | with_reducible apply Ext.drewN | (apply Ext.trans'; assumption)))) hx6)
  clear ho6 h6 hx6
  have i6 := ((Lp12.out w6 (w6.heap.size) (by simp)).ext (show Ext (w6.alloc (Obj.cells #[.int .i64 1, .int .i64 2] 3)) (w6.alloc (Obj.cells #[.int .i64 1, .int .i64 2] 3)) by (repeat (first | with_reducible exact Ext.refl _ | with_reducible apply Ext.alloc | with_reducible apply Ext.drew | with_reducible apply Ext.drewN | (apply Ext.trans'; assumption)))))
  have I6 := Lib.hid i6
  clear i6
  go_wp2_with fail
  refine (same_c _ _ _ [1, 2] _ _ _ [1, 2] _ (H6.out.ext (by (repeat (first | with_reducible exact Ext.refl _ | with_reducible apply Ext.alloc | with_reducible apply Ext.drew | with_reducible apply Ext.drewN | (apply Ext.trans'; assumption))))) I6.out).mono ?_
  rintro e w7 ⟨rfl, hx7⟩
  rw [S1.out]
  have HX7 : Hid (Ext w w7) := HX6.out.trans (Ext.trans (by (repeat (first | with_reducible exact Ext.refl _ | with_reducible apply Ext.alloc | with_reducible apply Ext.drew | with_reducible apply Ext.drewN | (apply Ext.trans'; assumption)))) hx7)
  clear hx7
  have r7 := ((rowsSl_newg (w := ((w7.alloc (Obj.cells #[.int .i64 (-1), .int .i64 2] 3)).alloc (Obj.cells #[.int .i64 2] 3))) (g := w7.heap.size + 1 + 1) [.slice (some ⟨w7.heap.size + 1, 0, none⟩) 1 1] 22 [[2]] 1 rfl (by decide) (by simp) (RowVals.cons ((L2.out (w7.alloc (Obj.cells #[.int .i64 (-1), .int .i64 2] 3)) (w7.heap.size + 1) (by simp)).ext (show Ext ((w7.alloc (Obj.cells #[.int .i64 (-1), .int .i64 2] 3)).alloc (Obj.cells #[.int .i64 2] 3)) ((w7.alloc (Obj.cells #[.int .i64 (-1), .int .i64 2] 3)).alloc (Obj.cells #[.int .i64 2] 3)) by (repeat (first | with_reducible exact Ext.refl _ | with_reducible apply Ext.alloc | with_reducible apply Ext.drew | with_reducible apply Ext.drewN | (apply Ext.trans'; assumption))))) (RowVals.nil _)) : RowsSl (((w7.alloc (Obj.cells #[.int .i64 (-1), .int .i64 2] 3)).alloc (Obj.cells #[.int .i64 2] 3)).alloc (Obj.cells #[.slice (some ⟨w7.heap.size + 1, 0, none⟩) 1 1] 22)) (some ⟨w7.heap.size + 1 + 1, 0, none⟩) 1 [[2]]).ext (show Ext (((w7.alloc (Obj.cells #[.int .i64 (-1), .int .i64 2] 3)).alloc (Obj.cells #[.int .i64 2] 3)).alloc (Obj.cells #[.slice (some ⟨w7.heap.size + 1, 0, none⟩) 1 1] 22)) (((w7.alloc (Obj.cells #[.int .i64 (-1), .int .i64 2] 3)).alloc (Obj.cells #[.int .i64 2] 3)).alloc (Obj.cells #[.slice (some ⟨w7.heap.size + 1, 0, none⟩) 1 1] 22)) by (repeat (first | with_reducible exact Ext.refl _ | with_reducible apply Ext.alloc | with_reducible apply Ext.drew | with_reducible apply Ext.drewN | (apply Ext.trans'; assumption)))))
  have i7 := ((L12.out w7 (w7.heap.size) (by simp)).ext (show Ext (w7.alloc (Obj.cells #[.int .i64 (-1), .int .i64 2] 3)) (((w7.alloc (Obj.cells #[.int .i64 (-1), .int .i64 2] 3)).alloc (Obj.cells #[.int .i64 2] 3)).alloc (Obj.cells #[.slice (some ⟨w7.heap.size + 1, 0, none⟩) 1 1] 22)) by (repeat (first | with_reducible exact Ext.refl _ | with_reducible apply Ext.alloc | with_reducible apply Ext.drew | with_reducible apply Ext.drewN | (apply Ext.trans'; assumption)))))
  have R7 := Lib.hid r7
  have I7 := Lib.hid i7
  clear r7 i7
  go_wp2_with fail
  refine (refute_c none 0 0 [] _ _ _ [-1, 2] 1 _ _ _ [[2]] _ (IntSl.nil _) I7.out R7.out (by decide) (by decide) (by decide)).mono ?_
  rintro e w8 ⟨rfl, hx8⟩
  rw [FF.out.2.2.2.2.2.1]
  have HX8 : Hid (Ext w w8) := HX7.out.trans (Ext.trans (by (repeat (first | with_reducible exact Ext.refl _ | with_reducible apply Ext.alloc | with_reducible apply Ext.drew | with_reducible apply Ext.drewN | (apply Ext.trans'; assumption)))) hx8)
  clear hx8
  have i8 := ((L12.out w8 (w8.heap.size) (by simp)).ext (show Ext (w8.alloc (Obj.cells #[.int .i64 (-1), .int .i64 2] 3)) (w8.alloc (Obj.cells #[.int .i64 (-1), .int .i64 2] 3)) by (repeat (first | with_reducible exact Ext.refl _ | with_reducible apply Ext.alloc | with_reducible apply Ext.drew | with_reducible apply Ext.drewN | (apply Ext.trans'; assumption)))))
  have I8 := Lib.hid i8
  clear i8
  go_wp2_with fail
  refine (refute_c none 0 0 [] _ _ _ [-1, 2] 1 none 0 0 [] _ (IntSl.nil _) I8.out (RowsSl.nil _) (by decide) (by decide) (by decide)).mono ?_
  rintro e w9 ⟨rfl, hx9⟩
  rw [FF.out.2.2.2.2.2.2.1]
  have HX9 : Hid (Ext w w9) := HX8.out.trans (Ext.trans (by (repeat (first | with_reducible exact Ext.refl _ | with_reducible apply Ext.alloc | with_reducible apply Ext.drew | with_reducible apply Ext.drewN | (apply Ext.trans'; assumption)))) hx9)
  clear hx9
  have i9 := ((L129.out (w9.alloc (Obj.cells #[.bool true, .bool false] 4)) (w9.heap.size + 1) (by simp)).ext (show Ext ((w9.alloc (Obj.cells #[.bool true, .bool false] 4)).alloc (Obj.cells #[.int .i64 (-1), .int .i64 2, .int .i64 9] 3)) ((w9.alloc (Obj.cells #[.bool true, .bool false] 4)).alloc (Obj.cells #[.int .i64 (-1), .int .i64 2, .int .i64 9] 3)) by (repeat (first | with_reducible exact Ext.refl _ | with_reducible apply Ext.alloc | with_reducible apply Ext.drew | with_reducible apply Ext.drewN | (apply Ext.trans'; assumption)))))
  have b9 := (Btf.out w9 _ rfl).ext (show Ext (w9.alloc (Obj.cells #[.bool true, .bool false] 4)) ((w9.alloc (Obj.cells #[.bool true, .bool false] 4)).alloc (Obj.cells #[.int .i64 (-1), .int .i64 2, .int .i64 9] 3)) by (repeat (first | with_reducible exact Ext.refl _ | with_reducible apply Ext.alloc | with_reducible apply Ext.drew | with_reducible apply Ext.drewN | (apply Ext.trans'; assumption))))
  have I9 := Lib.hid i9
  have B9 := Lib.hid b9
  clear i9 b9
  go_wp2_with fail
  refine (flip_c _ _ _ [true, false] _ _ _ [-1, 2, 9] _ B9.out I9.out (by decide)).mono ?_
  rintro e w10 ⟨A10, c10, rfl, h10, hx10⟩
  rw [FF.out.2.2.2.2.2.2.2] at h10
  have h10' := h10.sl (by decide)
  have H10 := Lib.hid h10'
  have HX10 : Hid (Ext w w10) := HX9.out.trans (Ext.trans (by (repeat (first | with_reducible exact Ext.refl _ | with_reducible apply Ext.alloc | with_reducible apply Ext.drew | with_reducible apply Ext.drewN | (apply Ext.trans'; assumption)))) hx10)
  clear hx10 h10 h10'
  go_wp2_with fail
  refine (sameB_c _ _ _ [false, true] _ _ _ [false, true] _ (H10.out.ext (by (repeat (first | with_reducible exact Ext.refl _ | with_reducible apply Ext.alloc | with_reducible apply Ext.drew | with_reducible apply Ext.drewN | (apply Ext.trans'; assumption))))) (Bft.out _ _ rfl)).mono ?_
  rintro e w11 ⟨rfl, hx11⟩
  rw [S2.out]
  have HX11 : Hid (Ext w w11) := HX10.out.trans (Ext.trans (by (repeat (first | with_reducible exact Ext.refl _ | with_reducible apply Ext.alloc | with_reducible apply Ext.drew | with_reducible apply Ext.drewN | (apply Ext.trans'; assumption)))) hx11)
  clear hx11
  go_wp2_with fail
  go_ret
  exact ⟨rfl, HX11.out⟩
end Go.Proofs.Ytdhohoabcokdjaa
