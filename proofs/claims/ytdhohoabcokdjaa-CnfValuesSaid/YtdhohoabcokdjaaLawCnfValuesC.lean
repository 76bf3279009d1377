/- CnfValues answers true. -/
import Derived.Test.YtdhohoabcokdjaaLawCnfHoldsC
set_option maxRecDepth 100000
namespace Go.Proofs.Ytdhohoabcokdjaa
open Go.RowKit

set_option maxRecDepth 100000 in
set_option maxHeartbeats 8000000 in
theorem lawCnfValues_c (x : Int) (A : Option Addr) (n c : Nat) (L : List (List Int)) (A' : Option Addr) (n' c' : Nat) (m : List Bool) (A2 : Option Addr) (n2 c2 : Nat) (l : List Int) (w : World) (hf : (-9223372036854775808 ≤ x ∧ x ≤ 9223372036854775807) ∧ RowsSl w A n L ∧ n ≤ c) (h' : BoolSl w A' n' m) (h2 : IntSl w A2 n2 l) :
    Calls Try.prog 8 #[.agg #[.int .i64 x, .slice A n c], .slice A' n' c', .slice A2 n2 c2] w fun e w' => e = .returned (.bool true) ∧ Ext w w' := by
  obtain ⟨⟨hx1, hx2⟩, h, hnc⟩ := hf
  cases hfew : fewV L with
  | false =>
    have HF := Lib.hid hfew
    clear hfew
    go_enter Try.func8, Try.ntmps8
    go_wp2_with fail
    refine (few04_c _ _ _ _ L _ (h.ext ((Ext.refl _).alloc _))).mono ?_
    rintro e w1 ⟨rfl, hx1⟩
    rw [HF.out]
    go_wp2_with fail
    refine (law04awake_c _).mono ?_
    rintro e w2 ⟨rfl, hx2⟩
    go_wp2_with fail
    go_ret
    exact ⟨rfl, by (repeat (first | with_reducible exact Ext.refl _ | with_reducible apply Ext.alloc | with_reducible apply Ext.drew | with_reducible apply Ext.drewN | (apply Ext.trans'; assumption)))⟩
  | true =>
    have HF := Lib.hid hfew
    clear hfew
    by_cases h300 : 300 < n'
    · go_enter Try.func8, Try.ntmps8
      go_wp2_with fail
      refine (few04_c _ _ _ _ L _ (h.ext ((Ext.refl _).alloc _))).mono ?_
      rintro e w1 ⟨rfl, hx1⟩
      rw [HF.out]
      go_wp2_with fail
      refine (law04awake_c _).mono ?_
      rintro e w2 ⟨rfl, hx2⟩
      go_wp2_with fail
      go_ret
      exact ⟨rfl, by (repeat (first | with_reducible exact Ext.refl _ | with_reducible apply Ext.alloc | with_reducible apply Ext.drew | with_reducible apply Ext.drewN | (apply Ext.trans'; assumption)))⟩
    · by_cases h200 : 200 < n2
      · go_enter Try.func8, Try.ntmps8
        go_wp2_with fail
        refine (few04_c _ _ _ _ L _ (h.ext ((Ext.refl _).alloc _))).mono ?_
        rintro e w1 ⟨rfl, hx1⟩
        rw [HF.out]
        go_wp2_with fail
        refine (law04awake_c _).mono ?_
        rintro e w2 ⟨rfl, hx2⟩
        go_wp2_with fail
        go_ret
        exact ⟨rfl, by (repeat (first | with_reducible exact Ext.refl _ | with_reducible apply Ext.alloc | with_reducible apply Ext.drew | with_reducible apply Ext.drewN | (apply Ext.trans'; assumption)))⟩
      · have hsm : n2 ≤ 1000000000000 := by omega
        have HB0 := Lib.hid (Blk.new w 48 #[.int .i64 x, .slice A n c])
        obtain ⟨fv, hfv⟩ : ∃ fv, firstV L m = fv := ⟨_, rfl⟩
        obtain ⟨hv, hhv⟩ : ∃ hv, holdsF x L m = hv := ⟨_, rfl⟩
        obtain ⟨sv, hsv⟩ : ∃ sv, statusV l L = sv := ⟨_, rfl⟩
        have FV := Lib.hid hfv
        have HV := Lib.hid hhv
        have SV := Lib.hid hsv
        clear hfv hhv hsv
        go_enter Try.func8, Try.ntmps8
        go_wp2_with fail
        refine (few04_c _ _ _ _ L _ (h.ext ((Ext.refl _).alloc _))).mono ?_
        rintro e w1 ⟨rfl, hx1⟩
        rw [HF.out]
        have hb1 := HB0.out.ext hx1
        have HX1 : Hid (Ext w w1) := ((Ext.refl _).alloc _).trans hx1
        have HB1 := Lib.hid hb1
        have y0 : w1.cell? ⟨w.heap.size, 0, none⟩ = some (.int .i64 x) := hb1.cell 0
        have y1 : w1.cell? ⟨w.heap.size, 1, none⟩ = some (.slice A n c) := hb1.cell 1
        clear hx1 hb1
        go_wp2
        go_region_held3 (fun w' => w'.cell? ⟨w.heap.size, 0, none⟩ = some (.int .i64 x) ∧ w'.cell? ⟨w.heap.size, 1, none⟩ = some (.slice A n c))
          (first | assumption | (go_split_ands; refine ⟨?_, ?_⟩ <;> first | assumption | (go_keep; done)))
          (first
            | (go_at_call 41; (with_reducible refine (cFirst_c _ _ _ _ L _ _ _ m _ (h.ext ?_) (h'.ext ?_)).mono ?_); exact HX1.out.trans (Ext.refl w1).drew; exact HX1.out.trans (Ext.refl w1).drew; rintro e w2 ⟨rfl, hx2⟩; rw [FV.out]; have HX2 := Lib.hid ((HX1.out.trans (Ext.refl w1).drew).trans hx2); have hb2 := (HB1.out.ext (Ext.refl w1).drew).ext hx2; have u0 := hb2.cell 0; have u1 := hb2.cell 1; have HB2 := Lib.hid hb2; clear hx2 hb2)
            | (go_at_call 22; (with_reducible refine (rFirst_c _ _ _ _ L _ _ _ m _ (h.ext HX2.out) (h'.ext HX2.out)).mono ?_); rintro e w3 ⟨rfl, hx3⟩; rw [FV.out]; have HX3 := Lib.hid (HX2.out.trans hx3); have hb3 := HB2.out.ext hx3; have u0 := hb3.cell 0; have u1 := hb3.cell 1; have HB3 := Lib.hid hb3; clear hx3 hb3)
            | (go_at_call 38; (with_reducible refine (cHolds_c _ _ _ _ L _ _ _ m _ (h.ext HX3.out) (h'.ext HX3.out)).mono ?_); rintro e w4 ⟨rfl, hx4⟩; rw [HV.out]; have HX4 := Lib.hid (HX3.out.trans hx4); have hb4 := HB3.out.ext hx4; have u0 := hb4.cell 0; have u1 := hb4.cell 1; have HB4 := Lib.hid hb4; clear hx4 hb4)
            | (go_at_call 42; (with_reducible refine (r4Holds_c _ _ _ _ L _ _ _ m _ (h.ext HX4.out) (h'.ext HX4.out)).mono ?_); rintro e w5 ⟨rfl, hx5⟩; rw [HV.out]; have HX5 := Lib.hid (HX4.out.trans hx5); have hb5 := HB4.out.ext hx5; have u0 := hb5.cell 0; have u1 := hb5.cell 1; have HB5 := Lib.hid hb5; clear hx5 hb5)
            | (go_at_call 43; (with_reducible refine (cStatus_c _ _ _ _ L _ _ _ l _ (h.ext HX5.out) (h2.ext HX5.out) hsm).mono ?_); rintro e w6 ⟨rfl, hx6⟩; rw [SV.out]; have HX6 := Lib.hid (HX5.out.trans hx6); have hb6 := HB5.out.ext hx6; have u0 := hb6.cell 0; have u1 := hb6.cell 1; have HB6 := Lib.hid hb6; clear hx6 hb6)
            | (go_at_call 44; (with_reducible refine (r4Status_c _ _ _ _ L _ _ _ l _ (h.ext HX6.out) (h2.ext HX6.out)).mono ?_); rintro e w7 ⟨rfl, hx7⟩; rw [SV.out]; have HX7 := Lib.hid (HX6.out.trans hx7); have hb7 := HB6.out.ext hx7; have u0 := hb7.cell 0; have u1 := hb7.cell 1; have HB7 := Lib.hid hb7; clear hx7 hb7)
            | (go_at_call 40; refine (law04awake_c _).mono ?_; rintro e w8 ⟨rfl, hx8⟩; have HX8 := Lib.hid (HX7.out.trans hx8); have hb8 := HB7.out.ext hx8; have u0 := hb8.cell 0; have u1 := hb8.cell 1; have HB8 := Lib.hid hb8; clear hx8 hb8))
        all_goals
          go_wp2_with fail
          go_ret
          exact ⟨rfl, HX8.out⟩
end Go.Proofs.Ytdhohoabcokdjaa
