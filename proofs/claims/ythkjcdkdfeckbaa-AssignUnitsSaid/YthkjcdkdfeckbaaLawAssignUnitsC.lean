/- AssignUnits answers true. -/
import Derived.Test.YthkjcdkdfeckbaaAssignAwake
import Derived.Test.YthkjcdkdfeckbaaAssign9
import Derived.Test.YthkjcdkdfeckbaaOwn0
import Derived.Deep.RegionHeld3
namespace Go.Proofs.Ythkjcdkdfeckbaa
open Go.RowKit

set_option maxHeartbeats 1500000 in
theorem lawAssignUnits_c (A : Option Addr) (n c : Nat) (l : List Int) (A' : Option Addr) (n' c' : Nat) (cl : List Int) (v : Int) (w : World) (h : IntSl w A n l) (h' : IntSl w A' n' cl) (hv1 : -9223372036854775808 ≤ v) (hv2 : v ≤ 9223372036854775807) :
    Calls Try.prog 9 #[.slice A n c, .slice A' n' c', .int .i64 v] w fun e w' => e = .returned (.bool true) ∧ Ext w w' := by
  by_cases hc : 200 < n ∨ 200 < n'
  · rcases hc with hc | hc
    all_goals
      go_enter Try.func9, Try.ntmps9
      go_wp2_with (go_at_call 27; refine (law03awake_c _).mono ?_; rintro e w1 ⟨rfl, hx⟩)
      all_goals
        try go_ret
        try exact ⟨rfl, hx⟩
    all_goals (exfalso; omega)
  · have hn : ¬ 200 < n := by omega
    have hn2 : ¬ 200 < n' := by omega
    have hsm : n ≤ 1000000000000 := by omega
    clear hc
    obtain ⟨b1, b1'⟩ := cnV_bd l cl 1
    obtain ⟨b2, b2'⟩ := cnV_bd l cl (-1)
    obtain ⟨b3, b3'⟩ := cnV_bd l cl 0
    rw [h'.1] at b1' b2' b3'
    have hsum := cnV_sum l cl
    have HSUM := Lib.hid hsum
    clear hsum
    go_enter Try.func9, Try.ntmps9
    go_wp2_with (go_at_call 34; refine (count_c _ _ _ l _ _ _ cl _ h h' hsm).mono ?_; rintro e w1 ⟨rfl, hx1⟩; have HX1 := Lib.hid hx1; clear hx1)
    go_loop [8, 9] (fun s i => ∃ (k : Nat) (y : Int), k ≤ n' ∧ i = .int .i64 k ∧ s = .int .i64 y ∧ y = manyV (cl.take k) ∧ 0 ≤ y ∧ y ≤ k) (fun _ i => n' - (intOf i).toNat)
    case atStart => exact ⟨0, 0, Nat.zero_le _, rfl, rfl, rfl, by omega, by omega⟩
    case round =>
      obtain ⟨k, y, hk, rfl, rfl, hy, hy1, hy2⟩ := hrel
      have HY := Lib.hid hy
      clear hy
      have hX := HX1.out.alloc (Obj.cells #[.int .i64 (cnV l cl 1), .int .i64 (cnV l cl (-1)), .int .i64 (cnV l cl 0)] 46)
      have HX := Lib.hid hX
      clear hX
      by_cases hlt : k < n'
      · obtain ⟨ad, x, rfl, hx, hcx, hx1, hx2⟩ := (h'.ext HX.out).at_ hlt
        have HT := Lib.hid (take_succ_of hx.out)
        have HM := Lib.hid (manyV_snoc (cl.take k) x)
        have hvi := varV_index x
        by_cases hv : varV x = 0
        · have hi : ¬ 0 ≤ indexV x := by omega
          have HV := Lib.hid hv
          clear hv hvi
          go_wp2_with (go_at_call 23; refine (rIndex_c _ _).mono ?_; rintro e w' ⟨rfl, rfl⟩)
          go_round
          case rel => exact ⟨k + 1, _, by omega, by go_num, rfl, by rw [HT.out, HM.out, if_neg (by simp [HV.out])]; have := HY.out; omega, by omega, by omega⟩
          case measure => simp [intOf]; omega
        · have hi : 0 ≤ indexV x := by omega
          have HV := Lib.hid hv
          clear hv hvi
          go_wp2_with (go_at_call 23; refine (rIndex_c _ _).mono ?_; rintro e w' ⟨rfl, rfl⟩)
          go_round
          case rel => exact ⟨k + 1, y + 1, by omega, by go_num, by go_num, by rw [HT.out, HM.out, if_pos HV.out]; have := HY.out; omega, by omega, by omega⟩
          case measure => simp [intOf]; omega
      · have hys : cnV l cl 1 + cnV l cl (-1) + cnV l cl 0 = y := by have := HY.out; rw [take_len_of h'.1 hlt] at this; rw [this]; exact HSUM.out
        have hyb : (cnV l cl 1 + cnV l cl (-1) + cnV l cl 0 != y) = false := by simpa using hys
        have HYS := Lib.hid hys
        have hyb' : (cnV l cl 1 + cnV l cl (-1) + cnV l cl 0 == y) = true := by simpa using hys
        have hw1 : IntKind.i64.wrap (cnV l cl 1 + cnV l cl (-1)) = cnV l cl 1 + cnV l cl (-1) := IntWalk.i64_in _ (by omega)
        have hw2 : IntKind.i64.wrap (cnV l cl 1 + cnV l cl (-1) + cnV l cl 0) = cnV l cl 1 + cnV l cl (-1) + cnV l cl 0 := IntWalk.i64_in _ (by omega)
        have hB := Blk.new w1 46 #[.int .i64 (cnV l cl 1), .int .i64 (cnV l cl (-1)), .int .i64 (cnV l cl 0)]
        have g0 := hB.cell 0
        have g1 := hB.cell 1
        have g2 := hB.cell 2
        have hl3 := h.ext HX.out
        have hcl3 := h'.ext HX.out
        rcases (show (0 < cnV l cl 1 ∧ clauseV l cl = 1 ∧ (cnV l cl (-1) == y) = false) ∨ (¬ 0 < cnV l cl 1 ∧ 0 < cnV l cl 0 ∧ clauseV l cl = 0 ∧ (cnV l cl (-1) == y) = false) ∨ (¬ 0 < cnV l cl 1 ∧ ¬ 0 < cnV l cl 0 ∧ clauseV l cl = -1 ∧ (cnV l cl (-1) == y) = true) from by
          by_cases e1 : 0 < cnV l cl 1
          · exact Or.inl ⟨e1, by rw [clauseV, if_pos e1], by rw [beq_eq_false_iff_ne]; omega⟩
          · by_cases e0 : 0 < cnV l cl 0
            · exact Or.inr (Or.inl ⟨e1, e0, by rw [clauseV, if_neg e1, if_pos e0], by rw [beq_eq_false_iff_ne]; omega⟩)
            · exact Or.inr (Or.inr ⟨e1, e0, by rw [clauseV, if_neg e1, if_neg e0], by rw [beq_iff_eq]; omega⟩)) with ⟨e1, hcv, hyc⟩ | ⟨e1, e0, hcv, hyc⟩ | ⟨e1, e0, hcv, hyc⟩
        · have hu : unitB l cl = false := unitB_not1 (by omega)
          have hu2 : unitU l cl = 0 := by rw [unitU, hu]; rfl
          clear hys
          go_wp2_with fail
          go_region_held3 (fun w' => w'.cell? ⟨w1.heap.size, 0, none⟩ = some (.int .i64 (cnV l cl 1)) ∧ w'.cell? ⟨w1.heap.size, 1, none⟩ = some (.int .i64 (cnV l cl (-1))) ∧ w'.cell? ⟨w1.heap.size, 2, none⟩ = some (.int .i64 (cnV l cl 0)))
            (first | assumption | (go_split_ands; refine ⟨?_, ?_, ?_⟩ <;> first | assumption | exact Ext.cell (by assumption) (by assumption) | (go_simp; done)))
            (first | (go_at_call 33; (with_reducible refine (clause_c _ _ _ l _ _ _ cl _ ?_ ?_ hsm).mono ?_); (refine hl3.ext ?_); (repeat (first | with_reducible exact Ext.refl _ | with_reducible apply Ext.alloc | with_reducible apply Ext.drew | (apply Ext.trans'; assumption))); (refine hcl3.ext ?_); (repeat (first | with_reducible exact Ext.refl _ | with_reducible apply Ext.alloc | with_reducible apply Ext.drew | (apply Ext.trans'; assumption))); rintro e wr ⟨rfl, hxr⟩; rw [hcv]))
          go_wp2_with (first
            | (go_at_call 28; (with_reducible refine (unit_c _ _ _ l _ _ _ cl _ ?_ ?_ hsm).mono ?_); (refine hl3.ext ?_); (repeat (first | with_reducible exact Ext.refl _ | with_reducible apply Ext.alloc | with_reducible apply Ext.drew | (apply Ext.trans'; assumption))); (refine hcl3.ext ?_); (repeat (first | with_reducible exact Ext.refl _ | with_reducible apply Ext.alloc | with_reducible apply Ext.drew | (apply Ext.trans'; assumption))); rintro e w4 ⟨rfl, hx4⟩)
            | (go_at_call 27; refine (law03awake_c _).mono ?_; rintro e w5 ⟨rfl, hx5⟩))
          go_ret
          exact ⟨rfl, by have hXX := HX.out; repeat (first | with_reducible exact Ext.refl _ | with_reducible apply Ext.alloc | with_reducible apply Ext.drew | (apply Ext.trans'; assumption))⟩
        · have d1 : decide (0 < cnV l cl 1) = false := decide_eq_false e1
          by_cases e2 : cnV l cl 0 = 1
          · have hu : unitB l cl = true := unitB_of (by omega) e2
            have hu2 : unitU l cl = openV l cl := by rw [unitU, hu]; rfl
            obtain ⟨hov, hoz, hom, _⟩ := unit_facts e2
            obtain ⟨_, ho1, ho2⟩ := varV_pos hov
            have hyes := Lib.hid (clause_yes e2)
            have hno := Lib.hid (clause_no (show cnV l cl 1 = 0 by omega) e2)
            have hass := Lib.hid (fun a b => assign_yes (v := v) e2 a b)
            have HU := Lib.hid hu
            have HU2 := Lib.hid hu2
            clear hys e2 hov hoz hom
            go_wp2_with fail
            go_region_held3 (fun w' => w'.cell? ⟨w1.heap.size, 0, none⟩ = some (.int .i64 (cnV l cl 1)) ∧ w'.cell? ⟨w1.heap.size, 1, none⟩ = some (.int .i64 (cnV l cl (-1))) ∧ w'.cell? ⟨w1.heap.size, 2, none⟩ = some (.int .i64 (cnV l cl 0)))
              (first | assumption | (go_split_ands; refine ⟨?_, ?_, ?_⟩ <;> first | assumption | exact Ext.cell (by assumption) (by assumption) | (go_simp; done)))
              (first | (go_at_call 33; (with_reducible refine (clause_c _ _ _ l _ _ _ cl _ ?_ ?_ hsm).mono ?_); (refine hl3.ext ?_); (repeat (first | with_reducible exact Ext.refl _ | with_reducible apply Ext.alloc | with_reducible apply Ext.drew | (apply Ext.trans'; assumption))); (refine hcl3.ext ?_); (repeat (first | with_reducible exact Ext.refl _ | with_reducible apply Ext.alloc | with_reducible apply Ext.drew | (apply Ext.trans'; assumption))); rintro e wr ⟨rfl, hxr⟩; rw [hcv]))
            go_wp2_with fail
            go_at_call 28
            refine (unit_c _ _ _ l _ _ _ cl _ ?_ ?_ hsm).mono ?_
            · refine hl3.ext ?_
              repeat (first | with_reducible exact Ext.refl _ | with_reducible apply Ext.alloc | with_reducible apply Ext.drew | (apply Ext.trans'; assumption))
            · refine hcl3.ext ?_
              repeat (first | with_reducible exact Ext.refl _ | with_reducible apply Ext.alloc | with_reducible apply Ext.drew | (apply Ext.trans'; assumption))
            rintro e w4 ⟨rfl, hx4⟩
            rw [HU.out, HU2.out]
            have hx34 : Ext (w1.alloc (Obj.cells #[.int .i64 (cnV l cl 1), .int .i64 (cnV l cl (-1)), .int .i64 (cnV l cl 0)] 46)) w4 := by
              repeat (first | with_reducible exact Ext.refl _ | with_reducible apply Ext.alloc | with_reducible apply Ext.drew | (apply Ext.trans'; assumption))
            have HX04 := Lib.hid (HX.out.trans hx34)
            have hbl := h.2.2.1
            have hll := h.1
            have hbd1 : ∀ x ∈ l ++ [openV l cl], -9223372036854775808 ≤ x ∧ x ≤ 9223372036854775807 := by
              intro x hx
              rcases List.mem_append.1 hx with hx | hx
              · exact hbl x hx
              · rw [List.mem_singleton.1 hx]; omega
            have hbd2 : ∀ x ∈ l ++ [-openV l cl], -9223372036854775808 ≤ x ∧ x ≤ 9223372036854775807 := by
              intro x hx
              rcases List.mem_append.1 hx with hx | hx
              · exact hbl x hx
              · rw [List.mem_singleton.1 hx]; omega
            have HBD1 := Lib.hid hbd1
            have HBD2 := Lib.hid hbd2
            have HLL := Lib.hid hll
            have HL4 := Lib.hid (hl3.ext hx34)
            have HCL4 := Lib.hid (hcl3.ext hx34)
            have h3 : ∃ b1 b2 : Bool, (assignV l v != 0) = b1 ∧ (checkV (openV l cl) v != 0) = b2 ∧ (b1 = false → b2 = false → (assignV (l ++ [openV l cl]) v == 0) = true) := by
              refine ⟨_, _, rfl, rfl, fun ea eb => ?_⟩
              rw [beq_iff_eq]
              exact hass.out (by simpa using ea) (by simpa using eb)
            obtain ⟨q1, q2, hq1, hq2, hq3⟩ := h3
            clear hbl hbd1 hbd2 hll hx34 hx4 hl3 hcl3 g0 g1 g2 hB hcv hu hu2
            cases q1 <;> cases q2
            all_goals
              try have hq4 := hq3 rfl rfl
              clear hq3
              go_wp2_with (first
                | (at_builtin; refine appendS _ rfl (.tmp 84) (.tmp 85) rfl w4.heap.size _ [] rfl (own_empty w4) _ _ _ l rfl (HL4.out.ext ((Ext.refl _).alloc _)) (by simp; omega) (by simp) ?_; intro v5 w5 ho5 hg5 hloc; clear hloc; have HO5 := Lib.hid ho5; have HX5 : Hid (Ext w4 w5) := Ext.grown ((Ext.refl _).alloc _) hg5 (fun j hj => by have := (own_empty w4).blk j hj; omega); clear ho5 hg5)
                | (at_builtin; refine append1 _ rfl (.tmp 86) (.tmp 88) rfl w4.heap.size _ _ rfl (HO5.out.alloc _) _ _ _ rfl (cell_one _ _ _) (by omega) (by simp [HLL.out]; omega) (by have := HX5.out.size_le; simp; omega) ?_; intro v6 w6 ho6 hg6 hloc; clear hloc; have HX6 : Hid (Ext w4 w6) := Ext.grown (HX5.out.alloc _) hg6 (fun j hj => (HO5.out.blk j hj).1); clear hg6; obtain ⟨Ay, ny, cy, rfl, hsy⟩ := ho6.sl (by simp [HLL.out]; omega) (by simpa using HBD1.out); have hny : ny ≤ 1000000000000 := (by have := hsy.1; simp [HLL.out] at this; omega); have HSY := Lib.hid hsy; clear ho6 hsy)
                | (at_builtin; refine appendS _ rfl (.tmp 90) (.tmp 91) rfl w6.heap.size _ [] rfl (own_empty w6) _ _ _ l rfl ((HL4.out.ext HX6.out).ext ((Ext.refl _).alloc _)) (by simp; omega) (by simp) ?_; intro v7 w7 ho7 hg7 hloc; clear hloc; have HO7 := Lib.hid ho7; have HX7 : Hid (Ext w6 w7) := Ext.grown ((Ext.refl _).alloc _) hg7 (fun j hj => by have := (own_empty w6).blk j hj; omega); clear ho7 hg7)
                | (at_builtin; refine append1 _ rfl (.tmp 92) (.tmp 95) rfl w6.heap.size _ _ rfl (HO7.out.alloc _) _ _ _ rfl (cell_one _ _ _) (by omega) (by simp [HLL.out]; omega) (by have := HX7.out.size_le; simp; omega) ?_; intro v8 w8 ho8 hg8 hloc; clear hloc; have HX8 : Hid (Ext w6 w8) := Ext.grown (HX7.out.alloc _) hg8 (fun j hj => (HO7.out.blk j hj).1); clear hg8; obtain ⟨An, nn, cn, rfl, hsn⟩ := ho8.sl (by simp [HLL.out]; omega) (by simpa using HBD2.out); have hnn : nn ≤ 1000000000000 := (by have := hsn.1; simp [HLL.out] at this; omega); have HSN := Lib.hid hsn; have HX48 : Hid (Ext w4 w8) := HX6.out.trans HX8.out; clear ho8 hsn)
                | (go_at_call 33; (with_reducible refine (clause_c _ _ _ (l ++ [openV l cl]) _ _ _ cl _ (HSY.out.ext HX8.out) (HCL4.out.ext HX48.out) hny).mono ?_); rintro e w9 ⟨rfl, hx9⟩; rw [hyes.out]; have HX9 := Lib.hid hx9; clear hx9)
                | (go_at_call 33; (with_reducible refine (clause_c _ _ _ (l ++ [-openV l cl]) _ _ _ cl _ (HSN.out.ext HX9.out) (HCL4.out.ext (HX48.out.trans HX9.out)) hnn).mono ?_); rintro e w10 ⟨rfl, hx10⟩; rw [hno.out]; have HX10 := Lib.hid hx10; have HX410 := Lib.hid (HX48.out.trans (HX9.out.trans HX10.out)); clear hx10)
                | (go_at_call 30; (with_reducible refine (acheck_c _ _ _ l v _ (HL4.out.ext HX410.out) hsm hv1 hv2).mono ?_); rintro e w11 ⟨rfl, hx11⟩; have HX11 := Lib.hid hx11; clear hx11)
                | (go_at_call 42; refine (rCheck_c _ _ _).mono ?_; rintro e w' ⟨rfl, rfl⟩)
                | (go_at_call 30; (with_reducible refine (acheck_c _ _ _ (l ++ [openV l cl]) v _ (HSY.out.ext (HX8.out.trans (HX9.out.trans (HX10.out.trans HX11.out)))) hny hv1 hv2).mono ?_); rintro e w12 ⟨rfl, hx12⟩)
                | (go_at_call 27; refine (law03awake_c _).mono ?_; rintro e w13 ⟨rfl, hx13⟩))
              go_ret
              first
                | exact ⟨rfl, HX04.out.trans (HX410.out.trans (HX11.out.trans (hx12.trans hx13)))⟩
                | exact ⟨rfl, HX04.out.trans (HX410.out.trans (HX11.out.trans hx13))⟩
          · have hu : unitB l cl = false := unitB_not0 e2
            have hu2 : unitU l cl = 0 := by rw [unitU, hu]; rfl
            clear hys e2
            go_wp2_with fail
            go_region_held3 (fun w' => w'.cell? ⟨w1.heap.size, 0, none⟩ = some (.int .i64 (cnV l cl 1)) ∧ w'.cell? ⟨w1.heap.size, 1, none⟩ = some (.int .i64 (cnV l cl (-1))) ∧ w'.cell? ⟨w1.heap.size, 2, none⟩ = some (.int .i64 (cnV l cl 0)))
              (first | assumption | (go_split_ands; refine ⟨?_, ?_, ?_⟩ <;> first | assumption | exact Ext.cell (by assumption) (by assumption) | (go_simp; done)))
              (first | (go_at_call 33; (with_reducible refine (clause_c _ _ _ l _ _ _ cl _ ?_ ?_ hsm).mono ?_); (refine hl3.ext ?_); (repeat (first | with_reducible exact Ext.refl _ | with_reducible apply Ext.alloc | with_reducible apply Ext.drew | (apply Ext.trans'; assumption))); (refine hcl3.ext ?_); (repeat (first | with_reducible exact Ext.refl _ | with_reducible apply Ext.alloc | with_reducible apply Ext.drew | (apply Ext.trans'; assumption))); rintro e wr ⟨rfl, hxr⟩; rw [hcv]))
            go_wp2_with (first
              | (go_at_call 28; (with_reducible refine (unit_c _ _ _ l _ _ _ cl _ ?_ ?_ hsm).mono ?_); (refine hl3.ext ?_); (repeat (first | with_reducible exact Ext.refl _ | with_reducible apply Ext.alloc | with_reducible apply Ext.drew | (apply Ext.trans'; assumption))); (refine hcl3.ext ?_); (repeat (first | with_reducible exact Ext.refl _ | with_reducible apply Ext.alloc | with_reducible apply Ext.drew | (apply Ext.trans'; assumption))); rintro e w4 ⟨rfl, hx4⟩)
              | (go_at_call 27; refine (law03awake_c _).mono ?_; rintro e w5 ⟨rfl, hx5⟩))
            go_ret
            exact ⟨rfl, by have hXX := HX.out; repeat (first | with_reducible exact Ext.refl _ | with_reducible apply Ext.alloc | with_reducible apply Ext.drew | (apply Ext.trans'; assumption))⟩
        · have d1 : decide (0 < cnV l cl 1) = false := decide_eq_false e1
          have hu : unitB l cl = false := unitB_not0 (by omega)
          have hu2 : unitU l cl = 0 := by rw [unitU, hu]; rfl
          clear hys
          go_wp2_with fail
          go_region_held3 (fun w' => w'.cell? ⟨w1.heap.size, 0, none⟩ = some (.int .i64 (cnV l cl 1)) ∧ w'.cell? ⟨w1.heap.size, 1, none⟩ = some (.int .i64 (cnV l cl (-1))) ∧ w'.cell? ⟨w1.heap.size, 2, none⟩ = some (.int .i64 (cnV l cl 0)))
            (first | assumption | (go_split_ands; refine ⟨?_, ?_, ?_⟩ <;> first | assumption | exact Ext.cell (by assumption) (by assumption) | (go_simp; done)))
            (first | (go_at_call 33; (with_reducible refine (clause_c _ _ _ l _ _ _ cl _ ?_ ?_ hsm).mono ?_); (refine hl3.ext ?_); (repeat (first | with_reducible exact Ext.refl _ | with_reducible apply Ext.alloc | with_reducible apply Ext.drew | (apply Ext.trans'; assumption))); (refine hcl3.ext ?_); (repeat (first | with_reducible exact Ext.refl _ | with_reducible apply Ext.alloc | with_reducible apply Ext.drew | (apply Ext.trans'; assumption))); rintro e wr ⟨rfl, hxr⟩; rw [hcv]))
          go_wp2_with (first
            | (go_at_call 28; (with_reducible refine (unit_c _ _ _ l _ _ _ cl _ ?_ ?_ hsm).mono ?_); (refine hl3.ext ?_); (repeat (first | with_reducible exact Ext.refl _ | with_reducible apply Ext.alloc | with_reducible apply Ext.drew | (apply Ext.trans'; assumption))); (refine hcl3.ext ?_); (repeat (first | with_reducible exact Ext.refl _ | with_reducible apply Ext.alloc | with_reducible apply Ext.drew | (apply Ext.trans'; assumption))); rintro e w4 ⟨rfl, hx4⟩)
            | (go_at_call 27; refine (law03awake_c _).mono ?_; rintro e w5 ⟨rfl, hx5⟩))
          go_ret
          exact ⟨rfl, by have hXX := HX.out; repeat (first | with_reducible exact Ext.refl _ | with_reducible apply Ext.alloc | with_reducible apply Ext.drew | (apply Ext.trans'; assumption))⟩
end Go.Proofs.Ythkjcdkdfeckbaa
