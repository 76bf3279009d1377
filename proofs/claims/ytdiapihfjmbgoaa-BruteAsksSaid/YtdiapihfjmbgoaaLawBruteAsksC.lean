/- BruteAsks answers true. -/
import Derived.Test.YtdiapihfjmbgoaaBr19
set_option maxRecDepth 100000
namespace Go.Proofs.Ytdiapihfjmbgoaa
open Go.RowKit

set_option maxRecDepth 100000 in
set_option maxHeartbeats 8000000 in
theorem lawBruteAsks_c (x : Int) (A : Option Addr) (n c : Nat) (L : List (List Int)) (y : Int) (A' : Option Addr) (n' c' : Nat) (L' : List (List Int)) (A2 : Option Addr) (n2 c2 : Nat) (cl : List Int) (w : World) (hf : (-9223372036854775808 ≤ x ∧ x ≤ 9223372036854775807) ∧ RowsW w A n L ∧ n ≤ c) (hg : (-9223372036854775808 ≤ y ∧ y ≤ 9223372036854775807) ∧ RowsW w A' n' L' ∧ n' ≤ c') (h2 : IntSl w A2 n2 cl ∧ n2 ≤ c2) :
    Calls Try.prog 4 #[.agg #[.int .i64 x, .slice A n c], .agg #[.int .i64 y, .slice A' n' c'], .slice A2 n2 c2] w fun e w' => e = .returned (.bool true) ∧ Ext w w' := by
  have HF := Lib.hid hf.2.1
  have HG := Lib.hid hg.2.1
  have HC := Lib.hid h2.1
  have HCC := Lib.hid h2.2
  clear hf hg h2
  have hA := (Blk.new w 24 #[.int .i64 x, .slice A n c]).alloc (Obj.cells #[.int .i64 y, .slice A' n' c'] 24)
  have hB := Blk.new (w.alloc (Obj.cells #[.int .i64 x, .slice A n c] 24)) 24 #[.int .i64 y, .slice A' n' c']
  rw [World.size_alloc] at hB
  have HA := Lib.hid hA
  have HB := Lib.hid hB
  have HX0 : Hid (Ext w _) := ((Ext.refl w).alloc (Obj.cells #[.int .i64 x, .slice A n c] 24)).alloc (Obj.cells #[.int .i64 y, .slice A' n' c'] 24)
  clear hA hB
  cases hfew : few22V x L with
  | false =>
    have HW := Lib.hid hfew
    clear hfew
    go_enter Try.func4, Try.ntmps4
    go_wp2_with fail
    refine (few22_c x _ _ _ L _ (HF.out.sl.ext HX0.out)).mono ?_
    rintro e w1 ⟨rfl, hx⟩
    rw [HW.out]
    have HX1 := Lib.hid (HX0.out.trans hx)
    have HA := Lib.hid (HA.out.ext hx)
    have HB := Lib.hid (HB.out.ext hx)
    clear hx
    have a0 : w1.cell? ⟨w.heap.size, 0, none⟩ = some (.int .i64 x) := HA.out.cell 0
    have a1 : w1.cell? ⟨w.heap.size, 1, none⟩ = some (.slice A n c) := HA.out.cell 1
    have b0 : w1.cell? ⟨w.heap.size + 1, 0, none⟩ = some (.int .i64 y) := HB.out.cell 0
    have b1 : w1.cell? ⟨w.heap.size + 1, 1, none⟩ = some (.slice A' n' c') := HB.out.cell 1
    go_wp2_with fail
    refine (law22awake_c _).mono ?_
    rintro e w2 ⟨rfl, hx⟩
    have HX2 := Lib.hid (HX1.out.trans hx)
    have HA := Lib.hid (HA.out.ext hx)
    have HB := Lib.hid (HB.out.ext hx)
    clear hx
    clear a0 a1 b0 b1
    have a0 : w2.cell? ⟨w.heap.size, 0, none⟩ = some (.int .i64 x) := HA.out.cell 0
    have a1 : w2.cell? ⟨w.heap.size, 1, none⟩ = some (.slice A n c) := HA.out.cell 1
    have b0 : w2.cell? ⟨w.heap.size + 1, 0, none⟩ = some (.int .i64 y) := HB.out.cell 0
    have b1 : w2.cell? ⟨w.heap.size + 1, 1, none⟩ = some (.slice A' n' c') := HB.out.cell 1
    go_wp2_with fail
    go_ret
    exact ⟨rfl, HX2.out⟩
  | true =>
    have HW := Lib.hid hfew
    have HN := Lib.hid (few22_bd hfew).1
    clear hfew
    cases hfew : few22V y L' with
    | false =>
      have HW2 := Lib.hid hfew
      clear hfew
      go_enter Try.func4, Try.ntmps4
      go_wp2_with fail
      refine (few22_c x _ _ _ L _ (HF.out.sl.ext HX0.out)).mono ?_
      rintro e w1 ⟨rfl, hx⟩
      rw [HW.out]
      have HX1 := Lib.hid (HX0.out.trans hx)
      have HA := Lib.hid (HA.out.ext hx)
      have HB := Lib.hid (HB.out.ext hx)
      clear hx
      have a0 : w1.cell? ⟨w.heap.size, 0, none⟩ = some (.int .i64 x) := HA.out.cell 0
      have a1 : w1.cell? ⟨w.heap.size, 1, none⟩ = some (.slice A n c) := HA.out.cell 1
      have b0 : w1.cell? ⟨w.heap.size + 1, 0, none⟩ = some (.int .i64 y) := HB.out.cell 0
      have b1 : w1.cell? ⟨w.heap.size + 1, 1, none⟩ = some (.slice A' n' c') := HB.out.cell 1
      go_wp2_with fail
      refine (few22_c y _ _ _ L' _ (HG.out.sl.ext HX1.out)).mono ?_
      rintro e w2 ⟨rfl, hx⟩
      rw [HW2.out]
      have HX2 := Lib.hid (HX1.out.trans hx)
      have HA := Lib.hid (HA.out.ext hx)
      have HB := Lib.hid (HB.out.ext hx)
      clear hx
      clear a0 a1 b0 b1
      have a0 : w2.cell? ⟨w.heap.size, 0, none⟩ = some (.int .i64 x) := HA.out.cell 0
      have a1 : w2.cell? ⟨w.heap.size, 1, none⟩ = some (.slice A n c) := HA.out.cell 1
      have b0 : w2.cell? ⟨w.heap.size + 1, 0, none⟩ = some (.int .i64 y) := HB.out.cell 0
      have b1 : w2.cell? ⟨w.heap.size + 1, 1, none⟩ = some (.slice A' n' c') := HB.out.cell 1
      go_wp2_with fail
      refine (law22awake_c _).mono ?_
      rintro e w3 ⟨rfl, hx⟩
      have HX3 := Lib.hid (HX2.out.trans hx)
      have HA := Lib.hid (HA.out.ext hx)
      have HB := Lib.hid (HB.out.ext hx)
      clear hx
      clear a0 a1 b0 b1
      have a0 : w3.cell? ⟨w.heap.size, 0, none⟩ = some (.int .i64 x) := HA.out.cell 0
      have a1 : w3.cell? ⟨w.heap.size, 1, none⟩ = some (.slice A n c) := HA.out.cell 1
      have b0 : w3.cell? ⟨w.heap.size + 1, 0, none⟩ = some (.int .i64 y) := HB.out.cell 0
      have b1 : w3.cell? ⟨w.heap.size + 1, 1, none⟩ = some (.slice A' n' c') := HB.out.cell 1
      go_wp2_with fail
      go_ret
      exact ⟨rfl, HX3.out⟩
    | true =>
      have HW2 := Lib.hid hfew
      have HN2 := Lib.hid (few22_bd hfew).1
      clear hfew
      by_cases h50 : 50 < n2
      · go_enter Try.func4, Try.ntmps4
        go_wp2_with fail
        refine (few22_c x _ _ _ L _ (HF.out.sl.ext HX0.out)).mono ?_
        rintro e w1 ⟨rfl, hx⟩
        rw [HW.out]
        have HX1 := Lib.hid (HX0.out.trans hx)
        have HA := Lib.hid (HA.out.ext hx)
        have HB := Lib.hid (HB.out.ext hx)
        clear hx
        have a0 : w1.cell? ⟨w.heap.size, 0, none⟩ = some (.int .i64 x) := HA.out.cell 0
        have a1 : w1.cell? ⟨w.heap.size, 1, none⟩ = some (.slice A n c) := HA.out.cell 1
        have b0 : w1.cell? ⟨w.heap.size + 1, 0, none⟩ = some (.int .i64 y) := HB.out.cell 0
        have b1 : w1.cell? ⟨w.heap.size + 1, 1, none⟩ = some (.slice A' n' c') := HB.out.cell 1
        go_wp2_with fail
        refine (few22_c y _ _ _ L' _ (HG.out.sl.ext HX1.out)).mono ?_
        rintro e w2 ⟨rfl, hx⟩
        rw [HW2.out]
        have HX2 := Lib.hid (HX1.out.trans hx)
        have HA := Lib.hid (HA.out.ext hx)
        have HB := Lib.hid (HB.out.ext hx)
        clear hx
        clear a0 a1 b0 b1
        have a0 : w2.cell? ⟨w.heap.size, 0, none⟩ = some (.int .i64 x) := HA.out.cell 0
        have a1 : w2.cell? ⟨w.heap.size, 1, none⟩ = some (.slice A n c) := HA.out.cell 1
        have b0 : w2.cell? ⟨w.heap.size + 1, 0, none⟩ = some (.int .i64 y) := HB.out.cell 0
        have b1 : w2.cell? ⟨w.heap.size + 1, 1, none⟩ = some (.slice A' n' c') := HB.out.cell 1
        go_wp2_with fail
        refine (law22awake_c _).mono ?_
        rintro e w3 ⟨rfl, hx⟩
        have HX3 := Lib.hid (HX2.out.trans hx)
        have HA := Lib.hid (HA.out.ext hx)
        have HB := Lib.hid (HB.out.ext hx)
        clear hx
        clear a0 a1 b0 b1
        have a0 : w3.cell? ⟨w.heap.size, 0, none⟩ = some (.int .i64 x) := HA.out.cell 0
        have a1 : w3.cell? ⟨w.heap.size, 1, none⟩ = some (.slice A n c) := HA.out.cell 1
        have b0 : w3.cell? ⟨w.heap.size + 1, 0, none⟩ = some (.int .i64 y) := HB.out.cell 0
        have b1 : w3.cell? ⟨w.heap.size + 1, 1, none⟩ = some (.slice A' n' c') := HB.out.cell 1
        go_wp2_with fail
        go_ret
        exact ⟨rfl, HX3.out⟩
      · go_enter Try.func4, Try.ntmps4
        go_wp2_with fail
        refine (few22_c x _ _ _ L _ (HF.out.sl.ext HX0.out)).mono ?_
        rintro e w1 ⟨rfl, hx⟩
        rw [HW.out]
        have HX1 := Lib.hid (HX0.out.trans hx)
        have HA := Lib.hid (HA.out.ext hx)
        have HB := Lib.hid (HB.out.ext hx)
        clear hx
        have a0 : w1.cell? ⟨w.heap.size, 0, none⟩ = some (.int .i64 x) := HA.out.cell 0
        have a1 : w1.cell? ⟨w.heap.size, 1, none⟩ = some (.slice A n c) := HA.out.cell 1
        have b0 : w1.cell? ⟨w.heap.size + 1, 0, none⟩ = some (.int .i64 y) := HB.out.cell 0
        have b1 : w1.cell? ⟨w.heap.size + 1, 1, none⟩ = some (.slice A' n' c') := HB.out.cell 1
        go_wp2_with fail
        refine (few22_c y _ _ _ L' _ (HG.out.sl.ext HX1.out)).mono ?_
        rintro e w2 ⟨rfl, hx⟩
        rw [HW2.out]
        have HX2 := Lib.hid (HX1.out.trans hx)
        have HA := Lib.hid (HA.out.ext hx)
        have HB := Lib.hid (HB.out.ext hx)
        clear hx
        clear a0 a1 b0 b1
        have a0 : w2.cell? ⟨w.heap.size, 0, none⟩ = some (.int .i64 x) := HA.out.cell 0
        have a1 : w2.cell? ⟨w.heap.size, 1, none⟩ = some (.slice A n c) := HA.out.cell 1
        have b0 : w2.cell? ⟨w.heap.size + 1, 0, none⟩ = some (.int .i64 y) := HB.out.cell 0
        have b1 : w2.cell? ⟨w.heap.size + 1, 1, none⟩ = some (.slice A' n' c') := HB.out.cell 1
        go_wp2_with fail
        refine (bfollows_c x _ _ _ L _ _ _ cl _ (HF.out.sl.ext HX2.out) (by have := HF.out.1; have := HN.out; omega) (HC.out.ext HX2.out)).mono ?_
        rintro e w3 ⟨rfl, hx⟩
        have HX3 := Lib.hid (HX2.out.trans hx)
        have HA := Lib.hid (HA.out.ext hx)
        have HB := Lib.hid (HB.out.ext hx)
        clear hx
        clear a0 a1 b0 b1
        have a0 : w3.cell? ⟨w.heap.size, 0, none⟩ = some (.int .i64 x) := HA.out.cell 0
        have a1 : w3.cell? ⟨w.heap.size, 1, none⟩ = some (.slice A n c) := HA.out.cell 1
        have b0 : w3.cell? ⟨w.heap.size + 1, 0, none⟩ = some (.int .i64 y) := HB.out.cell 0
        have b1 : w3.cell? ⟨w.heap.size + 1, 1, none⟩ = some (.slice A' n' c') := HB.out.cell 1
        go_wp2_with fail
        refine (r22Follows_c x _ _ _ L _ _ _ cl _ (HF.out.ext HX3.out) (HC.out.ext HX3.out) HCC.out).mono ?_
        rintro e w4 ⟨rfl, hx⟩
        have HX4 := Lib.hid (HX3.out.trans hx)
        have HA := Lib.hid (HA.out.ext hx)
        have HB := Lib.hid (HB.out.ext hx)
        clear hx
        clear a0 a1 b0 b1
        have a0 : w4.cell? ⟨w.heap.size, 0, none⟩ = some (.int .i64 x) := HA.out.cell 0
        have a1 : w4.cell? ⟨w.heap.size, 1, none⟩ = some (.slice A n c) := HA.out.cell 1
        have b0 : w4.cell? ⟨w.heap.size + 1, 0, none⟩ = some (.int .i64 y) := HB.out.cell 0
        have b1 : w4.cell? ⟨w.heap.size + 1, 1, none⟩ = some (.slice A' n' c') := HB.out.cell 1
        generalize (bFollowsV x L cl).1 = p1
        generalize (bFollowsV x L cl).2 = p2
        go_wp2_with fail
        refine (bequal_c x _ _ _ L y _ _ _ L' _ (HF.out.sl.ext HX4.out) (HG.out.sl.ext HX4.out) (by have := HF.out.1; have := HN.out; omega) (by have := HG.out.1; have := HN2.out; omega)).mono ?_
        rintro e w5 ⟨rfl, hx⟩
        have HX5 := Lib.hid (HX4.out.trans hx)
        have HA := Lib.hid (HA.out.ext hx)
        have HB := Lib.hid (HB.out.ext hx)
        clear hx
        clear a0 a1 b0 b1
        have a0 : w5.cell? ⟨w.heap.size, 0, none⟩ = some (.int .i64 x) := HA.out.cell 0
        have a1 : w5.cell? ⟨w.heap.size, 1, none⟩ = some (.slice A n c) := HA.out.cell 1
        have b0 : w5.cell? ⟨w.heap.size + 1, 0, none⟩ = some (.int .i64 y) := HB.out.cell 0
        have b1 : w5.cell? ⟨w.heap.size + 1, 1, none⟩ = some (.slice A' n' c') := HB.out.cell 1
        go_wp2_with fail
        refine (r22Equal_c x _ _ _ L y _ _ _ L' _ (HF.out.ext HX5.out) (HG.out.ext HX5.out)).mono ?_
        rintro e w6 ⟨rfl, hx⟩
        have HX6 := Lib.hid (HX5.out.trans hx)
        have HA := Lib.hid (HA.out.ext hx)
        have HB := Lib.hid (HB.out.ext hx)
        clear hx
        clear a0 a1 b0 b1
        have a0 : w6.cell? ⟨w.heap.size, 0, none⟩ = some (.int .i64 x) := HA.out.cell 0
        have a1 : w6.cell? ⟨w.heap.size, 1, none⟩ = some (.slice A n c) := HA.out.cell 1
        have b0 : w6.cell? ⟨w.heap.size + 1, 0, none⟩ = some (.int .i64 y) := HB.out.cell 0
        have b1 : w6.cell? ⟨w.heap.size + 1, 1, none⟩ = some (.slice A' n' c') := HB.out.cell 1
        generalize (bEqualV x L y L').1 = q1
        generalize (bEqualV x L y L').2 = q2
        go_wp2_with fail
        refine (law22awake_c _).mono ?_
        rintro e w7 ⟨rfl, hx⟩
        have HX7 := Lib.hid (HX6.out.trans hx)
        have HA := Lib.hid (HA.out.ext hx)
        have HB := Lib.hid (HB.out.ext hx)
        clear hx
        clear a0 a1 b0 b1
        have a0 : w7.cell? ⟨w.heap.size, 0, none⟩ = some (.int .i64 x) := HA.out.cell 0
        have a1 : w7.cell? ⟨w.heap.size, 1, none⟩ = some (.slice A n c) := HA.out.cell 1
        have b0 : w7.cell? ⟨w.heap.size + 1, 0, none⟩ = some (.int .i64 y) := HB.out.cell 0
        have b1 : w7.cell? ⟨w.heap.size + 1, 1, none⟩ = some (.slice A' n' c') := HB.out.cell 1
        go_wp2_with fail
        go_ret
        exact ⟨rfl, HX7.out⟩
end Go.Proofs.Ytdiapihfjmbgoaa
