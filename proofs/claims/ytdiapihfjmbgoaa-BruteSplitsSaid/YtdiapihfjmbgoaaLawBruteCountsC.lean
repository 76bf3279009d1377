/- BruteCounts answers true. -/
import Derived.Test.YtdiapihfjmbgoaaLawBruteTellsC
set_option maxRecDepth 100000
namespace Go.Proofs.Ytdiapihfjmbgoaa
open Go.RowKit

theorem mem_sets {v : Int} {L : List (List Int)} {m : Nat} (h : m ∈ setsV v L) : bCheckV v L = 0 ∧ m < 2 ^ v.toNat ∧ firstV L (bitsV m v.toNat) < 0 := by
  unfold setsV at h
  by_cases hc : bCheckV v L = 0
  · rw [if_pos hc, List.mem_filter, List.mem_range, decide_eq_true_eq] at h
    exact ⟨hc, h.1, h.2⟩
  · rw [if_neg hc] at h; cases h
theorem sets_nodup (v : Int) (L : List (List Int)) : (setsV v L).Nodup := by
  unfold setsV
  split
  · exact List.Pairwise.filter _ List.nodup_range
  · exact List.nodup_nil
theorem models_nodup (v : Int) (L : List (List Int)) : (modelsV v L).Nodup := by
  unfold modelsV
  unfold List.Nodup
  rw [List.pairwise_map]
  refine List.Pairwise.imp_of_mem ?_ (sets_nodup v L)
  intro a b ha hb hne e
  exact hne (bitsV_inj (mem_sets ha).2.1 (mem_sets hb).2.1 e)
theorem models_ne {v : Int} {L : List (List Int)} {i k : Nat} {a b : List Bool} (h : k < i) (ha : (modelsV v L)[i]? = some a) (hb : (modelsV v L)[k]? = some b) : sameB a b = false := by
  have := models_nodup v L
  obtain ⟨hi, rfl⟩ := List.getElem?_eq_some_iff.1 ha
  obtain ⟨hk, rfl⟩ := List.getElem?_eq_some_iff.1 hb
  have h2 := (List.pairwise_iff_getElem.1 this) k i hk hi h
  unfold sameB
  rw [decide_eq_false_iff_not]
  exact fun e => h2 e.symm
theorem models_hold {v : Int} {L : List (List Int)} {i : Nat} {a : List Bool} (ha : (modelsV v L)[i]? = some a) : holdsF v L a = true := by
  have hm := List.mem_of_getElem? ha
  unfold modelsV at hm
  obtain ⟨m, hm2, rfl⟩ := List.mem_map.1 hm
  obtain ⟨hc, _, hf⟩ := mem_sets hm2
  have := (bCheck_ok hc).1
  unfold holdsF
  rw [bitsV_len, decide_eq_true (by omega), decide_eq_true hf]; rfl
theorem told_len (v : Int) (L : List (List Int)) {most : Int} (h : 1 ≤ most) : ((toldV v L most).length : Int) = min ((modelsV v L).length : Int) most := by
  unfold toldV
  rw [List.length_take]
  omega

set_option maxRecDepth 100000 in
set_option maxHeartbeats 8000000 in
theorem lawBruteCounts_c (x : Int) (A : Option Addr) (n c : Nat) (L : List (List Int)) (most : Int) (w : World) (hf : (-9223372036854775808 ≤ x ∧ x ≤ 9223372036854775807) ∧ RowsSl w A n L ∧ n ≤ c) (_hn1 : -9223372036854775808 ≤ most) (_hn2 : most ≤ 9223372036854775807) :
    Calls Try.prog 5 #[.agg #[.int .i64 x, .slice A n c], .int .i64 most] w fun e w' => e = .returned (.bool true) ∧ Ext w w' := by
  have HF := Lib.hid hf.2.1
  clear hf
  have HB := Lib.hid (Blk.new w 24 #[.int .i64 x, .slice A n c])
  have HX0 : Hid (Ext w _) := (Ext.refl w).alloc (Obj.cells #[.int .i64 x, .slice A n c] 24)
  cases hfew : few22V x L with
  | false =>
    have HW := Lib.hid hfew
    clear hfew
    go_enter Try.func5, Try.ntmps5
    go_wp2_with fail
    refine (few22_c x _ _ _ L _ (HF.out.ext HX0.out)).mono ?_
    rintro e w1 ⟨rfl, hx⟩
    rw [HW.out]
    have HX1 := Lib.hid (HX0.out.trans hx)
    have HB := Lib.hid (HB.out.ext hx)
    clear hx
    have b0 : w1.cell? ⟨w.heap.size, 0, none⟩ = some (.int .i64 x) := HB.out.cell 0
    have b1 : w1.cell? ⟨w.heap.size, 1, none⟩ = some (.slice A n c) := HB.out.cell 1
    go_wp2_with fail
    refine (law22awake_c _).mono ?_
    rintro e w2 ⟨rfl, hx⟩
    have HX2 := Lib.hid (HX1.out.trans hx)
    have HB := Lib.hid (HB.out.ext hx)
    clear hx
    clear b0 b1
    have b0 : w2.cell? ⟨w.heap.size, 0, none⟩ = some (.int .i64 x) := HB.out.cell 0
    have b1 : w2.cell? ⟨w.heap.size, 1, none⟩ = some (.slice A n c) := HB.out.cell 1
    go_wp2_with fail
    go_ret
    exact ⟨rfl, HX2.out⟩
  | true =>
    have HW := Lib.hid hfew
    have HN := Lib.hid (few22_bd hfew).1
    have HT := Lib.hid (toldM hfew)
    have hml : (modelsV x L).length ≤ 128 := by unfold modelsV; rw [List.length_map]; exact few_models hfew
    have hnsm : n ≤ 1000000 := by have := HF.out.1; have := HN.out; omega
    clear hfew
    by_cases hmost : most < 1
    · go_enter Try.func5, Try.ntmps5
      go_wp2_with fail
      refine (few22_c x _ _ _ L _ (HF.out.ext HX0.out)).mono ?_
      rintro e w1 ⟨rfl, hx⟩
      rw [HW.out]
      have HX1 := Lib.hid (HX0.out.trans hx)
      have HB := Lib.hid (HB.out.ext hx)
      clear hx
      have b0 : w1.cell? ⟨w.heap.size, 0, none⟩ = some (.int .i64 x) := HB.out.cell 0
      have b1 : w1.cell? ⟨w.heap.size, 1, none⟩ = some (.slice A n c) := HB.out.cell 1
      go_wp2_with fail
      refine (law22awake_c _).mono ?_
      rintro e w2 ⟨rfl, hx⟩
      have HX2 := Lib.hid (HX1.out.trans hx)
      have HB := Lib.hid (HB.out.ext hx)
      clear hx
      clear b0 b1
      have b0 : w2.cell? ⟨w.heap.size, 0, none⟩ = some (.int .i64 x) := HB.out.cell 0
      have b1 : w2.cell? ⟨w.heap.size, 1, none⟩ = some (.slice A n c) := HB.out.cell 1
      go_wp2_with fail
      go_ret
      exact ⟨rfl, HX2.out⟩
    · by_cases hbc : bCheckV x L = 0
      · have HBC := Lib.hid hbc
        have HMIN := Lib.hid (told_len x L (most := most) (by omega))
        have hmost1 : 1 ≤ most := by omega
        clear hbc
        go_enter Try.func5, Try.ntmps5
        go_wp2_with fail
        refine (few22_c x _ _ _ L _ (HF.out.ext HX0.out)).mono ?_
        rintro e w1 ⟨rfl, hx⟩
        rw [HW.out]
        have HX1 := Lib.hid (HX0.out.trans hx)
        have HB := Lib.hid (HB.out.ext hx)
        clear hx
        have b0 : w1.cell? ⟨w.heap.size, 0, none⟩ = some (.int .i64 x) := HB.out.cell 0
        have b1 : w1.cell? ⟨w.heap.size, 1, none⟩ = some (.slice A n c) := HB.out.cell 1
        go_wp2_with fail
        refine (countM_c x _ _ _ L _ (HF.out.ext HX1.out) hnsm).mono ?_
        rintro e w2 ⟨rfl, hx⟩
        rw [HBC.out]
        have HX2 := Lib.hid (HX1.out.trans hx)
        have HB := Lib.hid (HB.out.ext hx)
        clear hx
        clear b0 b1
        have b0 : w2.cell? ⟨w.heap.size, 0, none⟩ = some (.int .i64 x) := HB.out.cell 0
        have b1 : w2.cell? ⟨w.heap.size, 1, none⟩ = some (.slice A n c) := HB.out.cell 1
        go_wp2_with fail
        refine (lawAll_c x _ _ _ L 1000 _ (HF.out.ext HX2.out) hnsm).mono ?_
        rintro e w3 ⟨A7, n7, c7, rfl, hr, hx⟩
        rw [HT.out] at hr
        obtain rfl : (modelsV x L).length = n7 := hr.1
        have HR7 := Lib.hid hr
        clear hr
        have HX3 := Lib.hid (HX2.out.trans hx)
        have HB := Lib.hid (HB.out.ext hx)
        clear hx
        clear b0 b1
        have b0 : w3.cell? ⟨w.heap.size, 0, none⟩ = some (.int .i64 x) := HB.out.cell 0
        have b1 : w3.cell? ⟨w.heap.size, 1, none⟩ = some (.slice A n c) := HB.out.cell 1
        go_wp2_with fail
        go_loopw [8] (fun i wr => ∃ q : Nat, q ≤ (modelsV x L).length ∧ i = .int .i64 q ∧ Ext w3 wr) (fun i _ => (modelsV x L).length - (intOf i).toNat)
        case atStart => exact ⟨0, Nat.zero_le _, rfl, Ext.refl _⟩
        case round =>
          obtain ⟨q, hq, rfl, hxr⟩ := hrel
          have HXR := Lib.hid hxr
          have d0 : wr.cell? ⟨w.heap.size, 0, none⟩ = some (.int .i64 x) := hxr.cell b0
          have d1 : wr.cell? ⟨w.heap.size, 1, none⟩ = some (.slice A n c) := hxr.cell b1
          by_cases hlt : q < (modelsV x L).length
          · obtain ⟨ad7, m7, A71, n71, c71, rfl, hm7, hcm7, hbs7⟩ := (HR7.out.ext hxr).at_ hlt
            have HH := Lib.hid (models_hold hm7.out)
            have z0 : (0 : Int) ≤ (q : Int) := by omega
            have z1 : (q : Int) < ((modelsV x L).length : Int) := by omega
            clear hxr b0 b1
            go_wp2
            go_region_held3 (fun w' => w'.cell? ⟨w.heap.size, 0, none⟩ = some (.int .i64 x) ∧ w'.cell? ⟨w.heap.size, 1, none⟩ = some (.slice A n c) ∧ w'.cell? (ad7.add q) = some (.slice A71 n71 c71))
              (first | exact ⟨q0, q1, q2⟩ | exact ⟨Ext.cell ((Ext.refl _).drew) d0, Ext.cell ((Ext.refl _).drew) d1, Ext.cell ((Ext.refl _).drew) hcm7⟩ | with_reducible assumption | (go_split_ands; refine ⟨?_, ?_, ?_⟩ <;> with_reducible assumption))
              (first | (go_at_call 20; (with_reducible refine (r4Holds_c x _ _ _ L _ _ _ m7 _ (HF.out.ext (HX3.out.trans (HXR.out.trans ?_))) (hbs7.out.ext ?_)).mono ?_); (repeat (first | with_reducible exact Ext.refl _ | with_reducible apply Ext.alloc | with_reducible apply Ext.drew | with_reducible apply Ext.drewN | (apply Ext.trans'; assumption))); (repeat (first | with_reducible exact Ext.refl _ | with_reducible apply Ext.alloc | with_reducible apply Ext.drew | with_reducible apply Ext.drewN | (apply Ext.trans'; assumption))); rintro e w20 ⟨rfl, hx20⟩; rw [HH.out]; have q0 := (show Ext wr w20 by (repeat (first | with_reducible exact Ext.refl _ | with_reducible apply Ext.alloc | with_reducible apply Ext.drew | with_reducible apply Ext.drewN | (apply Ext.trans'; assumption)))).cell d0; have q1 := (show Ext wr w20 by (repeat (first | with_reducible exact Ext.refl _ | with_reducible apply Ext.alloc | with_reducible apply Ext.drew | with_reducible apply Ext.drewN | (apply Ext.trans'; assumption)))).cell d1; have q2 := (show Ext wr w20 by (repeat (first | with_reducible exact Ext.refl _ | with_reducible apply Ext.alloc | with_reducible apply Ext.drew | with_reducible apply Ext.drewN | (apply Ext.trans'; assumption)))).cell hcm7))
            have hx20' : Ext wr w20 := by (repeat (first | with_reducible exact Ext.refl _ | with_reducible apply Ext.alloc | with_reducible apply Ext.drew | with_reducible apply Ext.drewN | (apply Ext.trans'; assumption)))
            have HXR2 := Lib.hid (HXR.out.trans hx20')
            clear hx20 hx20'
            go_wp2
            go_loopw [9] (fun i wy => ∃ k : Nat, k ≤ q ∧ i = .int .i64 k ∧ Ext w20 wy) (fun i _ => q - (intOf i).toNat)
            case atStart => exact ⟨0, Nat.zero_le _, rfl, Ext.refl _⟩
            case round =>
              obtain ⟨k, hk, rfl, hxy⟩ := hrel
              have HXY := Lib.hid (HXR2.out.trans hxy)
              have hxy0 := Lib.hid hxy
              by_cases hkq : k < q
              · have hkl : k < (modelsV x L).length := by omega
                obtain ⟨ad8, m8, A81, n81, c81, had8, hm8, hcm8, hbs8⟩ := (HR7.out.ext HXY.out).at_ hlt
                obtain ⟨ad9, m9, A91, n91, c91, had9, hm9, hcm9, hbs9⟩ := (HR7.out.ext HXY.out).at_ hkl
                obtain rfl := Option.some.inj had8
                obtain rfl := Option.some.inj had9
                have HNE := Lib.hid (models_ne hkq hm8.out hm9.out)
                have y0 : (0 : Int) ≤ (k : Int) := by omega
                have y1 : (k : Int) < ((modelsV x L).length : Int) := by omega
                clear hxy
                go_wp2
                go_region_held3 (fun w' => w'.cell? (ad7.add q) = some (.slice A81 n81 c81) ∧ w'.cell? (ad7.add k) = some (.slice A91 n91 c91))
                  (first | exact ⟨p0, p1⟩ | exact ⟨Ext.cell ((Ext.refl _).drew) hcm8, Ext.cell ((Ext.refl _).drew) hcm9⟩ | with_reducible assumption | (go_split_ands; refine ⟨?_, ?_⟩ <;> with_reducible assumption))
                  (first | (go_at_call 13; (with_reducible refine (sameB_c _ _ _ m8 _ _ _ m9 _ (hbs8.out.ext ?_) (hbs9.out.ext ?_)).mono ?_); (repeat (first | with_reducible exact Ext.refl _ | with_reducible apply Ext.alloc | with_reducible apply Ext.drew | with_reducible apply Ext.drewN | (apply Ext.trans'; assumption))); (repeat (first | with_reducible exact Ext.refl _ | with_reducible apply Ext.alloc | with_reducible apply Ext.drew | with_reducible apply Ext.drewN | (apply Ext.trans'; assumption))); rintro e w21 ⟨rfl, hx21⟩; rw [HNE.out]; have p0 := (show Ext wr w21 by (repeat (first | with_reducible exact Ext.refl _ | with_reducible apply Ext.alloc | with_reducible apply Ext.drew | with_reducible apply Ext.drewN | (apply Ext.trans'; assumption)))).cell hcm8; have p1 := (show Ext wr w21 by (repeat (first | with_reducible exact Ext.refl _ | with_reducible apply Ext.alloc | with_reducible apply Ext.drew | with_reducible apply Ext.drewN | (apply Ext.trans'; assumption)))).cell hcm9))
                go_wp2
                go_roundw
                case rel => exact ⟨k + 1, by omega, by go_num, hxy0.out.trans (by (repeat (first | with_reducible exact Ext.refl _ | with_reducible apply Ext.alloc | with_reducible apply Ext.drew | with_reducible apply Ext.drewN | (apply Ext.trans'; assumption))))⟩
                case measure => simp [intOf]; omega
              · clear hxy
                go_wp2
                go_roundw
                case rel => exact ⟨q + 1, by omega, by go_num, HXY.out⟩
                case measure => simp [intOf]; omega
          · clear hxr b0 b1
            have HQ : Hid (q = (modelsV x L).length) := by unfold Hid; omega
            go_wp2_with fail
            refine (lawAll_c x _ _ _ L most _ (HF.out.ext (HX3.out.trans HXR.out)) hnsm).mono ?_
            rintro e w22 ⟨A8, n8, c8, rfl, hr8, hx22⟩
            have hn8 : (n8 : Int) = min ((modelsV x L).length : Int) most := by rw [← hr8.1]; exact HMIN.out
            have HX22 := Lib.hid (HX3.out.trans (HXR.out.trans hx22))
            have hlen2 : (modelsV x L).length ≤ 128 := hml
            rcases (show ((modelsV x L).length ≤ most ∧ n8 = (modelsV x L).length) ∨ ((most : Int) < (modelsV x L).length ∧ most = (n8 : Int)) by omega) with ⟨hmm, rfl⟩ | ⟨hmm, rfl⟩
            all_goals
              have hmm2 := Lib.hid hmm
              clear hr8 hx22 hn8
              first | (have hmm3 := Int.not_lt.2 hmm) | (have hmm3 := Int.not_le.2 hmm)
              go_wp2_with fail
              refine (law22awake_c _).mono ?_
              rintro e w30 ⟨rfl, hx30⟩
              go_wp2_with fail
              go_ret
              exact ⟨rfl, HX22.out.trans hx30⟩
      · have HM := Lib.hid (modelsV_nil hbc)
        have hne : (bCheckV x L != 0) = true := by simpa using hbc
        clear hbc
        go_enter Try.func5, Try.ntmps5
        go_wp2_with fail
        refine (few22_c x _ _ _ L _ (HF.out.ext HX0.out)).mono ?_
        rintro e w1 ⟨rfl, hx⟩
        rw [HW.out]
        have HX1 := Lib.hid (HX0.out.trans hx)
        have HB := Lib.hid (HB.out.ext hx)
        clear hx
        have b0 : w1.cell? ⟨w.heap.size, 0, none⟩ = some (.int .i64 x) := HB.out.cell 0
        have b1 : w1.cell? ⟨w.heap.size, 1, none⟩ = some (.slice A n c) := HB.out.cell 1
        go_wp2_with fail
        refine (countM_c x _ _ _ L _ (HF.out.ext HX1.out) hnsm).mono ?_
        rintro e w2 ⟨rfl, hx⟩
        rw [HM.out]
        generalize bCheckV x L = bc at hne
        have HX2 := Lib.hid (HX1.out.trans hx)
        have HB := Lib.hid (HB.out.ext hx)
        clear hx
        clear b0 b1
        have b0 : w2.cell? ⟨w.heap.size, 0, none⟩ = some (.int .i64 x) := HB.out.cell 0
        have b1 : w2.cell? ⟨w.heap.size, 1, none⟩ = some (.slice A n c) := HB.out.cell 1
        go_wp2_with fail
        refine (lawAll_c x _ _ _ L 1000 _ (HF.out.ext HX2.out) hnsm).mono ?_
        rintro e w3 ⟨A7, n7, c7, rfl, hr, hx⟩
        rw [HT.out, HM.out] at hr
        obtain rfl : 0 = n7 := hr.1
        clear hr
        have HX3 := Lib.hid (HX2.out.trans hx)
        have HB := Lib.hid (HB.out.ext hx)
        clear hx
        clear b0 b1
        have b0 : w3.cell? ⟨w.heap.size, 0, none⟩ = some (.int .i64 x) := HB.out.cell 0
        have b1 : w3.cell? ⟨w.heap.size, 1, none⟩ = some (.slice A n c) := HB.out.cell 1
        go_wp2_with fail
        refine (law22awake_c _).mono ?_
        rintro e w4 ⟨rfl, hx⟩
        have HX4 := Lib.hid (HX3.out.trans hx)
        have HB := Lib.hid (HB.out.ext hx)
        clear hx
        clear b0 b1
        have b0 : w4.cell? ⟨w.heap.size, 0, none⟩ = some (.int .i64 x) := HB.out.cell 0
        have b1 : w4.cell? ⟨w.heap.size, 1, none⟩ = some (.slice A n c) := HB.out.cell 1
        go_wp2_with fail
        go_ret
        exact ⟨rfl, HX4.out⟩
end Go.Proofs.Ytdiapihfjmbgoaa
