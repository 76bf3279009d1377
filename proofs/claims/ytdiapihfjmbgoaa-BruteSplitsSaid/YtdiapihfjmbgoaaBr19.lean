/- Layer 22 (brute): few, one, awake. -/
import Derived.Test.YtdiapihfjmbgoaaBr18
import Derived.Test.YtdiapihfjmbgoaaFew
set_option maxRecDepth 100000
namespace Go.Proofs.Ytdiapihfjmbgoaa
open Go.RowKit

def few22V (v : Int) (L : List (List Int)) : Bool := fewV L && (decide (v ≤ 7) || decide (16 < v)) && decide (L.length ≤ 60)
set_option maxHeartbeats 1000000 in
theorem few22_c (v : Int) (A : Option Addr) (n c : Nat) (L : List (List Int)) (w : World) (h : RowsSl w A n L) :
    Calls Try.prog 7 #[.agg #[.int .i64 v, .slice A n c]] w fun e w' => e = .returned (.bool (few22V v L)) ∧ Ext w w' := by
  have HF : Hid (few22V v L = (fewV L && (decide (v ≤ 7) || decide (16 < v)) && decide (n ≤ 60))) := by unfold Hid; rw [few22V, h.1]
  have HB := Lib.hid (Blk.new w 24 #[.int .i64 v, .slice A n c])
  have HX := Lib.hid ((Ext.refl w).alloc (Obj.cells #[.int .i64 v, .slice A n c] 24))
  have hv3 : (v ≤ 7 ∧ ¬ 16 < v) ∨ (¬ v ≤ 7 ∧ 16 < v) ∨ (¬ v ≤ 7 ∧ ¬ 16 < v) := by omega
  cases hf : fewV L <;> rcases hv3 with ⟨h1, h2⟩ | ⟨h1, h2⟩ | ⟨h1, h2⟩ <;> by_cases h3 : n ≤ 60
  all_goals
    have HR := HF.out
    rw [hf] at HR
    have HRR := Lib.hid HR
    have HFF := Lib.hid hf
    clear HR hf
    go_enter Try.func7, Try.ntmps7
    go_wp2_with fail
    refine (few04_c _ _ _ _ L _ (h.ext HX.out)).mono ?_
    rintro e w1 ⟨rfl, hx⟩
    rw [HFF.out]
    have a0 : w1.cell? ⟨w.heap.size, 0, none⟩ = some (.int .i64 v) := (HB.out.ext hx).cell 0
    have a1 : w1.cell? ⟨w.heap.size, 1, none⟩ = some (.slice A n c) := (HB.out.ext hx).cell 1
    have HX1 := Lib.hid (HX.out.trans hx)
    clear hx
    go_wp2_with fail
    go_ret
    exact ⟨ret_bool (by rw [HRR.out]; simp [h1, h2, h3]; try omega), HX1.out⟩
theorem few22_bd {v : Int} {L : List (List Int)} (h : few22V v L = true) : L.length ≤ 60 ∧ fewV L = true ∧ (v ≤ 7 ∨ 16 < v) := by
  unfold few22V at h
  simp only [Bool.and_eq_true, Bool.or_eq_true, decide_eq_true_eq] at h
  exact ⟨h.2, h.1.1, h.1.2⟩
/-- Few formulas have few models. -/
theorem few_models {v : Int} {L : List (List Int)} (h : few22V v L = true) : (setsV v L).length ≤ 128 := by
  unfold setsV
  by_cases hc : bCheckV v L = 0
  · rw [if_pos hc]
    obtain ⟨h1, h2, _⟩ := bCheck_ok hc
    refine Nat.le_trans (List.length_filter_le _ _) ?_
    rw [List.length_range]
    have h3 : v.toNat ≤ 7 := by have := (few22_bd h).2.2; omega
    exact (Nat.pow_le_pow_right (by decide) h3 : 2 ^ v.toNat ≤ 2 ^ 7)
  · rw [if_neg hc]; exact Nat.zero_le _

def oneL : List (List Int) := [[1, 2]]
def RetOne (w : World) (e : Ending) (w' : World) : Prop := ∃ A c, e = .returned (.agg #[.int .i64 2, .slice A 1 c]) ∧ RowsSl w' A 1 oneL ∧ Ext w w'
theorem one22_c (w : World) : Calls Try.prog 24 #[] w (RetOne w) := by
  have L1 := Lib.hid (intSl_newg #[.int .i64 1, .int .i64 2] 3 [1, 2] 2 rfl rfl (by decide) (by decide))
  go_enter Try.func24, Try.ntmps24
  go_wp2
  have hrow := rowsSl_newg (w := ((w.alloc (Obj.cells #[.int .i64 2, .slice (some ⟨w.heap.size + 1 + 1, 0, none⟩) 1 1] 24)).alloc (Obj.cells #[.int .i64 1, .int .i64 2] 3))) (g := w.heap.size + 1 + 1) _ 40 oneL 1 rfl (by decide) (by simp) (RowVals.cons (c := 2) (L1.out (w.alloc (Obj.cells #[.int .i64 2, .slice (some ⟨w.heap.size + 1 + 1, 0, none⟩) 1 1] 24)) (w.heap.size + 1) (by simp)) (RowVals.nil _))
  have hb := ((Blk.new w 24 #[.int .i64 2, .slice (some ⟨w.heap.size + 1 + 1, 0, none⟩) 1 1]).alloc (Obj.cells #[.int .i64 1, .int .i64 2] 3)).alloc (Obj.cells #[.slice (some ⟨w.heap.size + 1, 0, none⟩) 2 2] 40)
  have t0 := hb.cell 0
  have t1 := hb.cell 1
  refine bodyPost_ret (v := .agg #[.int .i64 2, .slice (some ⟨w.heap.size + 1 + 1, 0, none⟩) 1 1]) (by simp [results, Try.results24, go_sem, t0, t1]) rfl ⟨_, _, rfl, hrow, by (repeat (first | with_reducible exact Ext.refl _ | with_reducible apply Ext.alloc | with_reducible apply Ext.drew | with_reducible apply Ext.drewN | (apply Ext.trans'; assumption)))⟩

theorem one_facts : (setsV 2 oneL).length = 3 ∧ bCheckV 2 oneL = 0 ∧ nthV 2 oneL 0 = some 1 ∧ nthV 2 oneL 2 = some 3 ∧ nthV 2 oneL 3 = none ∧ bFollowsV 2 oneL [1, 2, -1] = (true, 0) ∧ bEqualV 2 oneL 2 [[2, 1]] = (true, 0) ∧ bCheckV 17 [] = 3 ∧ (setsV 17 []).length = 0 ∧ (toldV 2 oneL 2).length = 2 ∧ bitsV 1 2 = [true, false] ∧ bitsV 3 2 = [true, true] := by decide +kernel
theorem nth_some {v : Int} {L : List (List Int)} {n : Int} {m : Nat} {ok : Bool} {ms : List Bool} (h : nthV v L n = some m) (hr : match nthV v L n with | some m => ok = true ∧ ms = bitsV m v.toNat | none => ok = false ∧ ms = []) : ok = true ∧ ms = bitsV m v.toNat := by rw [h] at hr; exact hr
theorem nth_none {v : Int} {L : List (List Int)} {n : Int} {ok : Bool} {ms : List Bool} (h : nthV v L n = none) (hr : match nthV v L n with | some m => ok = true ∧ ms = bitsV m v.toNat | none => ok = false ∧ ms = []) : ok = false ∧ ms = [] := by rw [h] at hr; exact hr

set_option maxRecDepth 100000 in
set_option maxHeartbeats 8000000 in
theorem law22awake_c (w : World) : Calls Try.prog 8 #[] w fun e w' => e = .returned (.bool true) ∧ Ext w w' := by
  have L1 := Lib.hid (intSl_newg #[.int .i64 1, .int .i64 2, .int .i64 (-1)] 3 [1, 2, -1] 3 rfl rfl (by decide) (by decide))
  have L2 := Lib.hid (intSl_newg #[.int .i64 2, .int .i64 1] 3 [2, 1] 2 rfl rfl (by decide) (by decide))
  have Btf := Lib.hid (boolSl_newg #[.bool true, .bool false] 4 [true, false] 2 rfl rfl (by decide))
  have Btt := Lib.hid (boolSl_newg #[.bool true, .bool true] 4 [true, true] 2 rfl rfl (by decide))
  obtain ⟨f1, f2, f3, f4, f5, f6, f7, f8, f9, f10, f11, f12⟩ := one_facts
  have F1 := Lib.hid f1
  have F2 := Lib.hid f2
  have F3 := Lib.hid f3
  have F4 := Lib.hid f4
  have F5 := Lib.hid f5
  have F6 := Lib.hid f6
  have F7 := Lib.hid f7
  have F8 := Lib.hid f8
  have F9 := Lib.hid f9
  have F10 := Lib.hid f10
  have F11 := Lib.hid f11
  have F12 := Lib.hid f12
  clear f1 f2 f3 f4 f5 f6 f7 f8 f9 f10 f11 f12
  go_enter Try.func8, Try.ntmps8
  go_wp2_with fail
  refine (one22_c _).mono ?_
  rintro e w1 ⟨A1, c1, rfl, hr, hx⟩
  have HR1 := Lib.hid hr
  have HX1 := Lib.hid (hx)
  clear hr hx
  go_wp2_with fail
  refine (count_c _ _ _ _ oneL _ HR1.out (by decide)).mono ?_
  rintro e w2 ⟨rfl, hx⟩
  rw [F1.out, F2.out]
  have HX2 := Lib.hid (HX1.out.trans hx)
  clear hx
  go_wp2_with fail
  refine (one22_c _).mono ?_
  rintro e w3 ⟨A3, c3, rfl, hr, hx⟩
  have HR3 := Lib.hid hr
  have HX3 := Lib.hid (HX2.out.trans hx)
  clear hr hx
  go_wp2_with fail
  refine (bfirst_c _ _ _ _ oneL _ HR3.out (by decide)).mono ?_
  rintro e w4 ⟨A4, n4, c4, ok4, ms4, rfl, hs4, hx, hm4⟩
  obtain ⟨rfl, rfl⟩ := nth_some F3.out hm4
  have HX4 := Lib.hid (HX3.out.trans hx)
  have HS4 := Lib.hid hs4
  clear hx hs4 hm4
  have HZ4 : Hid (Ext w4 w4) := Ext.refl w4
  go_wp2_with fail
  refine (one22_c _).mono ?_
  rintro e w5 ⟨A5, c5, rfl, hr, hx⟩
  have HR5 := Lib.hid hr
  have HX5 := Lib.hid (HX4.out.trans hx)
  have HZ4 : Hid (Ext w4 w5) := HZ4.out.trans hx
  clear hr hx
  go_wp2_with fail
  refine (nth_c _ _ _ _ oneL 2 _ HR5.out (by decide)).mono ?_
  rintro e w6 ⟨A6, n6, c6, ok6, ms6, rfl, hs6, hx, hm6⟩
  obtain ⟨rfl, rfl⟩ := nth_some F4.out hm6
  have HX6 := Lib.hid (HX5.out.trans hx)
  have HZ4 : Hid (Ext w4 w6) := HZ4.out.trans hx
  have HS6 := Lib.hid hs6
  clear hx hs6 hm6
  have HZ6 : Hid (Ext w6 w6) := Ext.refl w6
  go_wp2_with fail
  refine (one22_c _).mono ?_
  rintro e w7 ⟨A7, c7, rfl, hr, hx⟩
  have HR7 := Lib.hid hr
  have HX7 := Lib.hid (HX6.out.trans hx)
  have HZ4 : Hid (Ext w4 w7) := HZ4.out.trans hx
  have HZ6 : Hid (Ext w6 w7) := HZ6.out.trans hx
  clear hr hx
  go_wp2_with fail
  refine (nth_c _ _ _ _ oneL 3 _ HR7.out (by decide)).mono ?_
  rintro e w8 ⟨A8, n8, c8, ok8, ms8, rfl, hs8, hx, hm8⟩
  obtain ⟨rfl, rfl⟩ := nth_none F5.out hm8
  have HX8 := Lib.hid (HX7.out.trans hx)
  have HZ4 : Hid (Ext w4 w8) := HZ4.out.trans hx
  have HZ6 : Hid (Ext w6 w8) := HZ6.out.trans hx
  clear hx hs8 hm8
  go_wp2_with fail
  refine (one22_c _).mono ?_
  rintro e w9 ⟨A9, c9, rfl, hr, hx⟩
  have HR9 := Lib.hid hr
  have HX9 := Lib.hid (HX8.out.trans hx)
  have HZ4 : Hid (Ext w4 w9) := HZ4.out.trans hx
  have HZ6 : Hid (Ext w6 w9) := HZ6.out.trans hx
  clear hr hx
  go_wp2_with fail
  refine (bfollows_c _ _ _ _ oneL _ _ _ [1, 2, -1] _ (HR9.out.ext ((Ext.refl _).alloc _)) (by decide) (L1.out _ _ rfl)).mono ?_
  rintro e w10 ⟨rfl, hx⟩
  rw [F6.out]
  have HX10 := Lib.hid (HX9.out.trans (((Ext.refl _).alloc _).trans hx))
  have HZ4 : Hid (Ext w4 w10) := HZ4.out.trans (((Ext.refl _).alloc _).trans hx)
  have HZ6 : Hid (Ext w6 w10) := HZ6.out.trans (((Ext.refl _).alloc _).trans hx)
  clear hx
  go_wp2_with fail
  refine (one22_c _).mono ?_
  rintro e w11 ⟨A11, c11, rfl, hr, hx⟩
  have HR11 := Lib.hid hr
  have HX11 := Lib.hid (HX10.out.trans hx)
  have HZ4 : Hid (Ext w4 w11) := HZ4.out.trans hx
  have HZ6 : Hid (Ext w6 w11) := HZ6.out.trans hx
  clear hr hx
  go_wp2_with fail
  refine (bequal_c _ _ _ _ oneL _ _ _ _ [[2, 1]] _ (HR11.out.ext (((Ext.refl _).alloc _).alloc _)) (rowsSl_newg (w := w11.alloc (Obj.cells #[.int .i64 2, .int .i64 1] 3)) _ _ [[2, 1]] 1 rfl (by decide) (by simp) (RowVals.cons (L2.out w11 _ rfl) (RowVals.nil _))) (by decide) (by decide)).mono ?_
  rintro e w12 ⟨rfl, hx⟩
  rw [F7.out]
  have HX12 := Lib.hid (HX11.out.trans ((((Ext.refl _).alloc _).alloc _).trans hx))
  have HZ4 : Hid (Ext w4 w12) := HZ4.out.trans ((((Ext.refl _).alloc _).alloc _).trans hx)
  have HZ6 : Hid (Ext w6 w12) := HZ6.out.trans ((((Ext.refl _).alloc _).alloc _).trans hx)
  clear hx
  go_wp2_with fail
  refine (count_c 17 none 0 0 [] _ (RowsSl.nil _) (by decide)).mono ?_
  rintro e w13 ⟨rfl, hx⟩
  rw [F8.out, F9.out]
  have HX13 := Lib.hid (HX12.out.trans hx)
  have HZ4 : Hid (Ext w4 w13) := HZ4.out.trans hx
  have HZ6 : Hid (Ext w6 w13) := HZ6.out.trans hx
  clear hx
  go_wp2_with fail
  have hx4_13 : Ext w4 w13 := HZ4.out
  have hx6_13 : Ext w6 w13 := HZ6.out
  have hs4 := (HS4.out.ext hx4_13).ext ((Ext.refl _).alloc (Obj.cells #[.bool true, .bool false] 4))
  have HS6' := Lib.hid (HS6.out.ext hx6_13)
  refine (sameB_c _ _ _ (bitsV 1 2) _ _ _ [true, false] _ hs4 (Btf.out _ _ rfl)).mono ?_
  rintro e w14 ⟨rfl, hx⟩
  have HX14 := Lib.hid (HX13.out.trans (((Ext.refl _).alloc _).trans hx))
  have HS6 := Lib.hid (HS6'.out.ext (((Ext.refl _).alloc _).trans hx))
  have hsb : sameB (bitsV 1 2) [true, false] = true := by rw [F11.out]; decide
  rw [hsb]
  clear hx hs4 hx4_13 hx6_13 hsb
  go_wp2_with fail
  have hs6 := HS6.out.ext ((Ext.refl _).alloc (Obj.cells #[.bool true, .bool true] 4))
  refine (sameB_c _ _ _ (bitsV 3 2) _ _ _ [true, true] _ hs6 (Btt.out _ _ rfl)).mono ?_
  rintro e w15 ⟨rfl, hx⟩
  have HX15 := Lib.hid (HX14.out.trans (((Ext.refl _).alloc _).trans hx))
  have hsb : sameB (bitsV 3 2) [true, true] = true := by rw [F12.out]; decide
  rw [hsb]
  clear hx hs6 hsb
  go_wp2_with fail
  refine (one22_c _).mono ?_
  rintro e w16 ⟨A16, c16, rfl, hr, hx⟩
  have HR16 := Lib.hid hr
  have HX16 := Lib.hid (HX15.out.trans hx)
  clear hr hx
  go_wp2_with fail
  refine (lawAll_c 2 _ _ _ oneL 2 _ HR16.out (by decide)).mono ?_
  rintro e w17 ⟨A17, n17, c17, rfl, hr, hx⟩
  have hn17 : n17 = 2 := hr.1.symm.trans F10.out
  subst hn17
  have HX17 := Lib.hid (HX16.out.trans hx)
  clear hr hx
  go_wp2_with fail
  go_ret
  exact ⟨rfl, HX17.out⟩
end Go.Proofs.Ytdiapihfjmbgoaa
