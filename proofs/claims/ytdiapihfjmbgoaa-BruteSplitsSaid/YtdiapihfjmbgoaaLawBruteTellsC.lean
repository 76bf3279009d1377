/- BruteTells answers true. -/
import Derived.Test.YtdiapihfjmbgoaaBr19
set_option maxRecDepth 100000
namespace Go.Proofs.Ytdiapihfjmbgoaa
open Go.RowKit

/-- The n-th model. -/
def nthM (v : Int) (L : List (List Int)) (n : Int) : Option (List Bool) := if 0 ≤ n then (modelsV v L)[n.toNat]? else none
theorem nthM_map (v : Int) (L : List (List Int)) (n : Int) : nthM v L n = (nthV v L n).map fun m => bitsV m v.toNat := by
  unfold nthM nthV modelsV
  by_cases h : 0 ≤ n
  · rw [if_pos h, if_pos h, List.getElem?_map]
  · rw [if_neg h, if_neg h]; rfl
def RetNthM (v : Int) (L : List (List Int)) (n : Int) (w : World) (e : Ending) (w' : World) : Prop :=
  ∃ A k c mm, e = .returned (.tuple #[.slice A k c, .bool (nthM v L n).isSome]) ∧ BoolSl w' A k mm ∧ Ext w w' ∧ mm = (nthM v L n).getD []
theorem ret_nthM {v : Int} {L : List (List Int)} {n : Int} {w w' : World} {e : Ending} (h : RetNth v L n w e w') : RetNthM v L n w e w' := by
  obtain ⟨A, k, c, ok, ms, rfl, hs, hx, hr⟩ := h
  have hm := nthM_map v L n
  cases hn : nthV v L n with
  | none =>
    obtain ⟨rfl, rfl⟩ := nth_none hn hr
    rw [hn] at hm
    exact ⟨A, k, c, _, by rw [hm]; rfl, hs, hx, by rw [hm]; rfl⟩
  | some m =>
    obtain ⟨rfl, rfl⟩ := nth_some hn hr
    rw [hn] at hm
    exact ⟨A, k, c, _, by rw [hm]; rfl, hs, hx, by rw [hm]; rfl⟩
theorem nthM_c (v : Int) (A : Option Addr) (nn c : Nat) (L : List (List Int)) (n : Int) (w : World) (hR : RowsSl w A nn L) (hsm : nn ≤ 1000000) :
    Calls Try.prog 12 #[.agg #[.int .i64 v, .slice A nn c], .int .i64 n] w (RetNthM v L n w) := (nth_c v A nn c L n w hR hsm).mono fun _ _ h => ret_nthM h
theorem firstM_c (v : Int) (A : Option Addr) (nn c : Nat) (L : List (List Int)) (w : World) (hR : RowsSl w A nn L) (hsm : nn ≤ 1000000) :
    Calls Try.prog 14 #[.agg #[.int .i64 v, .slice A nn c]] w (RetNthM v L 0 w) := (bfirst_c v A nn c L w hR hsm).mono fun _ _ h => ret_nthM h
theorem countM_c (v : Int) (A : Option Addr) (nn c : Nat) (L : List (List Int)) (w : World) (hR : RowsSl w A nn L) (hsm : nn ≤ 1000000) :
    Calls Try.prog 10 #[.agg #[.int .i64 v, .slice A nn c]] w fun e w' => e = .returned (.tuple #[.int .i64 ((modelsV v L).length : Nat), .int .i64 (bCheckV v L)]) ∧ Ext w w' := by
  have e : (modelsV v L).length = (setsV v L).length := by unfold modelsV; rw [List.length_map]
  rw [e]
  exact count_c v A nn c L w hR hsm
theorem toldM {v : Int} {L : List (List Int)} (h : few22V v L = true) : toldV v L 1000 = modelsV v L := by
  have := few_models h
  unfold toldV
  exact List.take_of_length_le (by unfold modelsV; rw [List.length_map]; omega)

set_option maxRecDepth 100000 in
set_option maxHeartbeats 8000000 in
theorem lawBruteTells_c (x : Int) (A : Option Addr) (n c : Nat) (L : List (List Int)) (n2 : Int) (w : World) (hf : (-9223372036854775808 ≤ x ∧ x ≤ 9223372036854775807) ∧ RowsW w A n L ∧ n ≤ c) (hn1 : -9223372036854775808 ≤ n2) (hn2 : n2 ≤ 9223372036854775807) :
    Calls Try.prog 3 #[.agg #[.int .i64 x, .slice A n c], .int .i64 n2] w fun e w' => e = .returned (.bool true) ∧ Ext w w' := by
  have HF := Lib.hid hf.2.1
  clear hf
  have HB := Lib.hid (Blk.new w 24 #[.int .i64 x, .slice A n c])
  have HX0 : Hid (Ext w _) := (Ext.refl w).alloc (Obj.cells #[.int .i64 x, .slice A n c] 24)
  cases hfew : few22V x L with
  | false =>
    have HW := Lib.hid hfew
    clear hfew
    go_enter Try.func3, Try.ntmps3
    go_wp2_with fail
    refine (few22_c x _ _ _ L _ (HF.out.sl.ext HX0.out)).mono ?_
    rintro e w1 ⟨rfl, hx⟩
    rw [HW.out]
    have HX1 := Lib.hid (HX0.out.trans hx)
    have HB := Lib.hid (HB.out.ext hx)
    clear hx
    have b0 : w1.cell? ⟨w.heap.size, 0, none⟩ = some (.int .i64 x) := HB.out.cell 0
    have b1 : w1.cell? ⟨w.heap.size, 1, none⟩ = some (.slice A n c) := HB.out.cell 1
    go_wp2_with fail
    refine (law22awake_c _).mono ?_
    rintro e w2 ⟨rfl, hx⟩
    have HX2 := Lib.hid (HX1.out.trans hx)
    have HB := Lib.hid (HB.out.ext hx)
    clear hx
    clear b0 b1
    have b0 : w2.cell? ⟨w.heap.size, 0, none⟩ = some (.int .i64 x) := HB.out.cell 0
    have b1 : w2.cell? ⟨w.heap.size, 1, none⟩ = some (.slice A n c) := HB.out.cell 1
    go_wp2_with fail
    go_ret
    exact ⟨rfl, HX2.out⟩
  | true =>
    have HW := Lib.hid hfew
    have HN := Lib.hid (few22_bd hfew).1
    have HT := Lib.hid (toldM hfew)
    have hml : (modelsV x L).length ≤ 128 := by unfold modelsV; rw [List.length_map]; exact few_models hfew
    have hnsm : n ≤ 1000000 := by have := HF.out.1; have := HN.out; omega
    clear hfew
    have hcase : (∃ (k : Nat) (m : List Bool), n2 = (k : Int) ∧ k < (modelsV x L).length ∧ (modelsV x L)[k]? = some m ∧ nthM x L n2 = some m) ∨ (n2 < 0 ∧ nthM x L n2 = none) ∨ (0 ≤ n2 ∧ ((modelsV x L).length : Int) ≤ n2 ∧ nthM x L n2 = none) := by
      unfold nthM
      by_cases h0 : 0 ≤ n2
      · by_cases h1 : n2.toNat < (modelsV x L).length
        · exact .inl ⟨n2.toNat, _, by omega, h1, List.getElem?_eq_getElem h1, by rw [if_pos h0, List.getElem?_eq_getElem h1]⟩
        · exact .inr (.inr ⟨h0, by omega, by rw [if_pos h0, List.getElem?_eq_none (by omega)]⟩)
      · exact .inr (.inl ⟨by omega, by rw [if_neg h0]⟩)
    have hfirst : (∃ m, 0 < (modelsV x L).length ∧ (modelsV x L)[0]? = some m ∧ nthM x L 0 = some m) ∨ ((modelsV x L).length = 0 ∧ nthM x L 0 = none) := by
      unfold nthM
      rw [if_pos (by decide), show (0 : Int).toNat = 0 from rfl]
      by_cases h1 : 0 < (modelsV x L).length
      · exact .inl ⟨_, h1, List.getElem?_eq_getElem h1, List.getElem?_eq_getElem h1⟩
      · exact .inr ⟨by omega, List.getElem?_eq_none (by omega)⟩
    rcases hcase with ⟨k, m, rfl, hk, hm, hp⟩ | ⟨hneg, hp⟩ | ⟨hpos, hbig, hp⟩
    · have HP := Lib.hid hp
      have HMM := Lib.hid hm
      have hki : (k : Int) < ((modelsV x L).length : Int) := by omega
      clear hm
      clear hp
      rcases hfirst with ⟨m0, h0len, hm0, hq0⟩ | ⟨h0len, hq0⟩
      · have HQ := Lib.hid hq0
        have HMQ := Lib.hid hm0
        have h0i : (0 : Int) < ((modelsV x L).length : Int) := by omega
        clear hm0
        clear hq0
        go_enter Try.func3, Try.ntmps3
        go_wp2_with fail
        refine (few22_c x _ _ _ L _ (HF.out.sl.ext HX0.out)).mono ?_
        rintro e w1 ⟨rfl, hx⟩
        rw [HW.out]
        have HX1 := Lib.hid (HX0.out.trans hx)
        have HB := Lib.hid (HB.out.ext hx)
        clear hx
        have b0 : w1.cell? ⟨w.heap.size, 0, none⟩ = some (.int .i64 x) := HB.out.cell 0
        have b1 : w1.cell? ⟨w.heap.size, 1, none⟩ = some (.slice A n c) := HB.out.cell 1
        go_wp2_with fail
        refine (r22All_c x _ _ _ L _ (HF.out.ext HX1.out)).mono ?_
        rintro e w2 ⟨A3, c3, rfl, hms, hx⟩
        have HMS := Lib.hid hms
        clear hms
        have HX2 := Lib.hid (HX1.out.trans hx)
        have HB := Lib.hid (HB.out.ext hx)
        clear hx
        clear b0 b1
        have b0 : w2.cell? ⟨w.heap.size, 0, none⟩ = some (.int .i64 x) := HB.out.cell 0
        have b1 : w2.cell? ⟨w.heap.size, 1, none⟩ = some (.slice A n c) := HB.out.cell 1
        go_wp2_with fail
        refine (countM_c x _ _ _ L _ (HF.out.sl.ext HX2.out) hnsm).mono ?_
        rintro e w3 ⟨rfl, hx⟩
        have HX3 := Lib.hid (HX2.out.trans hx)
        have HB := Lib.hid (HB.out.ext hx)
        have HMS := Lib.hid (HMS.out.ext hx)
        clear hx
        clear b0 b1
        have b0 : w3.cell? ⟨w.heap.size, 0, none⟩ = some (.int .i64 x) := HB.out.cell 0
        have b1 : w3.cell? ⟨w.heap.size, 1, none⟩ = some (.slice A n c) := HB.out.cell 1
        go_wp2_with fail
        refine (r22Check_c x _ _ _ L _ (HF.out.ext HX3.out)).mono ?_
        rintro e w4 ⟨rfl, hx⟩
        have HX4 := Lib.hid (HX3.out.trans hx)
        have HB := Lib.hid (HB.out.ext hx)
        have HMS := Lib.hid (HMS.out.ext hx)
        clear hx
        clear b0 b1
        have b0 : w4.cell? ⟨w.heap.size, 0, none⟩ = some (.int .i64 x) := HB.out.cell 0
        have b1 : w4.cell? ⟨w.heap.size, 1, none⟩ = some (.slice A n c) := HB.out.cell 1
        generalize bCheckV x L = bc
        go_wp2_with fail
        refine (nthM_c x _ _ _ L (k : Int) _ (HF.out.sl.ext HX4.out) hnsm).mono ?_
        rintro e w5 ⟨A5, k5, c5, mm5, rfl, hs5, hx, hm5⟩
        rw [HP.out] at hm5
        have hsm : (nthM x L (k : Int)).isSome = true := by rw [HP.out]; rfl
        rw [hsm]
        have HS5 := Lib.hid hs5
        have HM5 := Lib.hid hm5
        clear hs5 hm5 hsm
        have HX5 := Lib.hid (HX4.out.trans hx)
        have HB := Lib.hid (HB.out.ext hx)
        have HMS := Lib.hid (HMS.out.ext hx)
        clear hx
        clear b0 b1
        have b0 : w5.cell? ⟨w.heap.size, 0, none⟩ = some (.int .i64 x) := HB.out.cell 0
        have b1 : w5.cell? ⟨w.heap.size, 1, none⟩ = some (.slice A n c) := HB.out.cell 1
        obtain ⟨ad, m', A1, n1, c1, rfl, hm', hcm, hbs⟩ := HMS.out.at_ hk
        go_wp2_with fail
        refine (sameB_c _ _ _ mm5 _ _ _ m' _ HS5.out hbs.out).mono ?_
        rintro e w6 ⟨rfl, hx⟩
        have hsb : sameB mm5 m' = true := by rw [HM5.out, Option.some.inj (hm'.out.symm.trans HMM.out)]; exact sameB_refl _
        rw [hsb]
        clear hsb hcm
        have HX6 := Lib.hid (HX5.out.trans hx)
        have HB := Lib.hid (HB.out.ext hx)
        have HMS := Lib.hid (HMS.out.ext hx)
        clear hx
        clear b0 b1
        have b0 : w6.cell? ⟨w.heap.size, 0, none⟩ = some (.int .i64 x) := HB.out.cell 0
        have b1 : w6.cell? ⟨w.heap.size, 1, none⟩ = some (.slice A n c) := HB.out.cell 1
        go_wp2_with fail
        refine (firstM_c x _ _ _ L _ (HF.out.sl.ext HX6.out) hnsm).mono ?_
        rintro e w7 ⟨A6, k6, c6, mm6, rfl, hs6, hx, hm6⟩
        rw [HQ.out] at hm6
        have hsm : (nthM x L 0).isSome = true := by rw [HQ.out]; rfl
        rw [hsm]
        have HS6 := Lib.hid hs6
        have HM6 := Lib.hid hm6
        clear hs6 hm6 hsm
        have HX7 := Lib.hid (HX6.out.trans hx)
        have HB := Lib.hid (HB.out.ext hx)
        have HMS := Lib.hid (HMS.out.ext hx)
        clear hx
        clear b0 b1
        have b0 : w7.cell? ⟨w.heap.size, 0, none⟩ = some (.int .i64 x) := HB.out.cell 0
        have b1 : w7.cell? ⟨w.heap.size, 1, none⟩ = some (.slice A n c) := HB.out.cell 1
        obtain ⟨ad2, m2, A12, n12, c12, had, hm2, hcm2, hbs2⟩ := HMS.out.at_ h0len
        obtain rfl : ad = ad2 := Option.some.inj had
        rw [Addr.add_zero'] at hcm2
        go_wp2_with fail
        refine (sameB_c _ _ _ mm6 _ _ _ m2 _ HS6.out hbs2.out).mono ?_
        rintro e w8 ⟨rfl, hx⟩
        have hsb : sameB mm6 m2 = true := by rw [HM6.out, Option.some.inj (hm2.out.symm.trans HMQ.out)]; exact sameB_refl _
        rw [hsb]
        clear hsb hcm2
        have HX8 := Lib.hid (HX7.out.trans hx)
        have HB := Lib.hid (HB.out.ext hx)
        have HMS := Lib.hid (HMS.out.ext hx)
        clear hx
        clear b0 b1
        have b0 : w8.cell? ⟨w.heap.size, 0, none⟩ = some (.int .i64 x) := HB.out.cell 0
        have b1 : w8.cell? ⟨w.heap.size, 1, none⟩ = some (.slice A n c) := HB.out.cell 1
        go_wp2_with fail
        refine (lawAll_c x _ _ _ L 1000 _ (HF.out.sl.ext HX8.out) hnsm).mono ?_
        rintro e w9 ⟨A7, n7, c7, rfl, hr, hx⟩
        rw [HT.out] at hr
        obtain rfl : (modelsV x L).length = n7 := hr.1
        have HR7 := Lib.hid hr
        clear hr
        have HX9 := Lib.hid (HX8.out.trans hx)
        have HB := Lib.hid (HB.out.ext hx)
        have HMS := Lib.hid (HMS.out.ext hx)
        clear hx
        clear b0 b1
        have b0 : w9.cell? ⟨w.heap.size, 0, none⟩ = some (.int .i64 x) := HB.out.cell 0
        have b1 : w9.cell? ⟨w.heap.size, 1, none⟩ = some (.slice A n c) := HB.out.cell 1
        go_wp2_with fail
        go_loopw [11] (fun i wr => ∃ q : Nat, q ≤ (modelsV x L).length ∧ i = .int .i64 q ∧ Ext w9 wr) (fun i _ => (modelsV x L).length - (intOf i).toNat)
        case atStart => exact ⟨0, Nat.zero_le _, rfl, Ext.refl _⟩
        case round =>
          obtain ⟨q, hq, rfl, hxr⟩ := hrel
          have HXR := Lib.hid hxr
          by_cases hlt : q < (modelsV x L).length
          · obtain ⟨ad7, m7, A71, n71, c71, had7, hm7, hcm7, hbs7⟩ := (HR7.out.ext hxr).at_ hlt
            obtain ⟨ad8, m8, A81, n81, c81, had8, hm8, hcm8, hbs8⟩ := (HMS.out.ext hxr).at_ hlt
            subst had7
            obtain rfl := Option.some.inj had8
            obtain rfl : m7 = m8 := Option.some.inj (hm7.out.symm.trans hm8.out)
            have z0 : (0 : Int) ≤ (q : Int) := by omega
            have z1 : (q : Int) < ((modelsV x L).length : Int) := by omega
            clear hxr
            go_wp2
            go_region_held3 (fun w' => w'.cell? (ad7.add q) = some (.slice A71 n71 c71) ∧ w'.cell? (ad.add q) = some (.slice A81 n81 c81))
              (first | exact ⟨q0, q1⟩ | exact ⟨Ext.cell ((Ext.refl _).drew) hcm7, Ext.cell ((Ext.refl _).drew) hcm8⟩ | with_reducible assumption | (go_split_ands; refine ⟨?_, ?_⟩ <;> with_reducible assumption))
              (first | (go_at_call 13; (with_reducible refine (sameB_c _ _ _ m7 _ _ _ m7 _ (hbs7.out.ext ?_) (hbs8.out.ext ?_)).mono ?_); (repeat (first | with_reducible exact Ext.refl _ | with_reducible apply Ext.alloc | with_reducible apply Ext.drew | with_reducible apply Ext.drewN | (apply Ext.trans'; assumption))); (repeat (first | with_reducible exact Ext.refl _ | with_reducible apply Ext.alloc | with_reducible apply Ext.drew | with_reducible apply Ext.drewN | (apply Ext.trans'; assumption))); rintro e w20 ⟨rfl, hx20⟩; rw [sameB_refl]; have q0 := (show Ext wr w20 by (repeat (first | with_reducible exact Ext.refl _ | with_reducible apply Ext.alloc | with_reducible apply Ext.drew | with_reducible apply Ext.drewN | (apply Ext.trans'; assumption)))).cell hcm7; have q1 := (show Ext wr w20 by (repeat (first | with_reducible exact Ext.refl _ | with_reducible apply Ext.alloc | with_reducible apply Ext.drew | with_reducible apply Ext.drewN | (apply Ext.trans'; assumption)))).cell hcm8))
            go_wp2
            go_roundw
            case rel => exact ⟨q + 1, by omega, by go_num, HXR.out.trans (by (repeat (first | with_reducible exact Ext.refl _ | with_reducible apply Ext.alloc | with_reducible apply Ext.drew | with_reducible apply Ext.drewN | (apply Ext.trans'; assumption))))⟩
            case measure => simp [intOf]; omega
          · go_wp2_with fail
            refine (law22awake_c _).mono ?_
            rintro e w30 ⟨rfl, hx30⟩
            go_wp2_with fail
            go_ret
            exact ⟨rfl, HX9.out.trans (HXR.out.trans hx30)⟩
      · have HQ := Lib.hid hq0
        exact absurd hk (by omega)
    · have HP := Lib.hid hp
      clear hp
      rcases hfirst with ⟨m0, h0len, hm0, hq0⟩ | ⟨h0len, hq0⟩
      · have HQ := Lib.hid hq0
        have HMQ := Lib.hid hm0
        have h0i : (0 : Int) < ((modelsV x L).length : Int) := by omega
        clear hm0
        clear hq0
        go_enter Try.func3, Try.ntmps3
        go_wp2_with fail
        refine (few22_c x _ _ _ L _ (HF.out.sl.ext HX0.out)).mono ?_
        rintro e w1 ⟨rfl, hx⟩
        rw [HW.out]
        have HX1 := Lib.hid (HX0.out.trans hx)
        have HB := Lib.hid (HB.out.ext hx)
        clear hx
        have b0 : w1.cell? ⟨w.heap.size, 0, none⟩ = some (.int .i64 x) := HB.out.cell 0
        have b1 : w1.cell? ⟨w.heap.size, 1, none⟩ = some (.slice A n c) := HB.out.cell 1
        go_wp2_with fail
        refine (r22All_c x _ _ _ L _ (HF.out.ext HX1.out)).mono ?_
        rintro e w2 ⟨A3, c3, rfl, hms, hx⟩
        have HMS := Lib.hid hms
        clear hms
        have HX2 := Lib.hid (HX1.out.trans hx)
        have HB := Lib.hid (HB.out.ext hx)
        clear hx
        clear b0 b1
        have b0 : w2.cell? ⟨w.heap.size, 0, none⟩ = some (.int .i64 x) := HB.out.cell 0
        have b1 : w2.cell? ⟨w.heap.size, 1, none⟩ = some (.slice A n c) := HB.out.cell 1
        go_wp2_with fail
        refine (countM_c x _ _ _ L _ (HF.out.sl.ext HX2.out) hnsm).mono ?_
        rintro e w3 ⟨rfl, hx⟩
        have HX3 := Lib.hid (HX2.out.trans hx)
        have HB := Lib.hid (HB.out.ext hx)
        have HMS := Lib.hid (HMS.out.ext hx)
        clear hx
        clear b0 b1
        have b0 : w3.cell? ⟨w.heap.size, 0, none⟩ = some (.int .i64 x) := HB.out.cell 0
        have b1 : w3.cell? ⟨w.heap.size, 1, none⟩ = some (.slice A n c) := HB.out.cell 1
        go_wp2_with fail
        refine (r22Check_c x _ _ _ L _ (HF.out.ext HX3.out)).mono ?_
        rintro e w4 ⟨rfl, hx⟩
        have HX4 := Lib.hid (HX3.out.trans hx)
        have HB := Lib.hid (HB.out.ext hx)
        have HMS := Lib.hid (HMS.out.ext hx)
        clear hx
        clear b0 b1
        have b0 : w4.cell? ⟨w.heap.size, 0, none⟩ = some (.int .i64 x) := HB.out.cell 0
        have b1 : w4.cell? ⟨w.heap.size, 1, none⟩ = some (.slice A n c) := HB.out.cell 1
        generalize bCheckV x L = bc
        go_wp2_with fail
        refine (nthM_c x _ _ _ L n2 _ (HF.out.sl.ext HX4.out) hnsm).mono ?_
        rintro e w5 ⟨A5, k5, c5, mm5, rfl, hs5, hx, hm5⟩
        rw [HP.out] at hm5
        have hsm : (nthM x L n2).isSome = false := by rw [HP.out]; rfl
        rw [hsm]
        have HS5 := Lib.hid hs5
        have HM5 := Lib.hid hm5
        clear hs5 hm5 hsm
        have HX5 := Lib.hid (HX4.out.trans hx)
        have HB := Lib.hid (HB.out.ext hx)
        have HMS := Lib.hid (HMS.out.ext hx)
        clear hx
        clear b0 b1
        have b0 : w5.cell? ⟨w.heap.size, 0, none⟩ = some (.int .i64 x) := HB.out.cell 0
        have b1 : w5.cell? ⟨w.heap.size, 1, none⟩ = some (.slice A n c) := HB.out.cell 1
        have hk5 : k5 = 0 := by rw [← HS5.out.1, HM5.out]; rfl
        subst hk5
        go_wp2_with fail
        refine (firstM_c x _ _ _ L _ (HF.out.sl.ext HX5.out) hnsm).mono ?_
        rintro e w6 ⟨A6, k6, c6, mm6, rfl, hs6, hx, hm6⟩
        rw [HQ.out] at hm6
        have hsm : (nthM x L 0).isSome = true := by rw [HQ.out]; rfl
        rw [hsm]
        have HS6 := Lib.hid hs6
        have HM6 := Lib.hid hm6
        clear hs6 hm6 hsm
        have HX6 := Lib.hid (HX5.out.trans hx)
        have HB := Lib.hid (HB.out.ext hx)
        have HMS := Lib.hid (HMS.out.ext hx)
        clear hx
        clear b0 b1
        have b0 : w6.cell? ⟨w.heap.size, 0, none⟩ = some (.int .i64 x) := HB.out.cell 0
        have b1 : w6.cell? ⟨w.heap.size, 1, none⟩ = some (.slice A n c) := HB.out.cell 1
        obtain ⟨ad, m2, A12, n12, c12, rfl, hm2, hcm2, hbs2⟩ := HMS.out.at_ h0len
        rw [Addr.add_zero'] at hcm2
        go_wp2_with fail
        refine (sameB_c _ _ _ mm6 _ _ _ m2 _ HS6.out hbs2.out).mono ?_
        rintro e w7 ⟨rfl, hx⟩
        have hsb : sameB mm6 m2 = true := by rw [HM6.out, Option.some.inj (hm2.out.symm.trans HMQ.out)]; exact sameB_refl _
        rw [hsb]
        clear hsb hcm2
        have HX7 := Lib.hid (HX6.out.trans hx)
        have HB := Lib.hid (HB.out.ext hx)
        have HMS := Lib.hid (HMS.out.ext hx)
        clear hx
        clear b0 b1
        have b0 : w7.cell? ⟨w.heap.size, 0, none⟩ = some (.int .i64 x) := HB.out.cell 0
        have b1 : w7.cell? ⟨w.heap.size, 1, none⟩ = some (.slice A n c) := HB.out.cell 1
        go_wp2_with fail
        refine (lawAll_c x _ _ _ L 1000 _ (HF.out.sl.ext HX7.out) hnsm).mono ?_
        rintro e w8 ⟨A7, n7, c7, rfl, hr, hx⟩
        rw [HT.out] at hr
        obtain rfl : (modelsV x L).length = n7 := hr.1
        have HR7 := Lib.hid hr
        clear hr
        have HX8 := Lib.hid (HX7.out.trans hx)
        have HB := Lib.hid (HB.out.ext hx)
        have HMS := Lib.hid (HMS.out.ext hx)
        clear hx
        clear b0 b1
        have b0 : w8.cell? ⟨w.heap.size, 0, none⟩ = some (.int .i64 x) := HB.out.cell 0
        have b1 : w8.cell? ⟨w.heap.size, 1, none⟩ = some (.slice A n c) := HB.out.cell 1
        go_wp2_with fail
        go_loopw [11] (fun i wr => ∃ q : Nat, q ≤ (modelsV x L).length ∧ i = .int .i64 q ∧ Ext w8 wr) (fun i _ => (modelsV x L).length - (intOf i).toNat)
        case atStart => exact ⟨0, Nat.zero_le _, rfl, Ext.refl _⟩
        case round =>
          obtain ⟨q, hq, rfl, hxr⟩ := hrel
          have HXR := Lib.hid hxr
          by_cases hlt : q < (modelsV x L).length
          · obtain ⟨ad7, m7, A71, n71, c71, had7, hm7, hcm7, hbs7⟩ := (HR7.out.ext hxr).at_ hlt
            obtain ⟨ad8, m8, A81, n81, c81, had8, hm8, hcm8, hbs8⟩ := (HMS.out.ext hxr).at_ hlt
            subst had7
            obtain rfl := Option.some.inj had8
            obtain rfl : m7 = m8 := Option.some.inj (hm7.out.symm.trans hm8.out)
            have z0 : (0 : Int) ≤ (q : Int) := by omega
            have z1 : (q : Int) < ((modelsV x L).length : Int) := by omega
            clear hxr
            go_wp2
            go_region_held3 (fun w' => w'.cell? (ad7.add q) = some (.slice A71 n71 c71) ∧ w'.cell? (ad.add q) = some (.slice A81 n81 c81))
              (first | exact ⟨q0, q1⟩ | exact ⟨Ext.cell ((Ext.refl _).drew) hcm7, Ext.cell ((Ext.refl _).drew) hcm8⟩ | with_reducible assumption | (go_split_ands; refine ⟨?_, ?_⟩ <;> with_reducible assumption))
              (first | (go_at_call 13; (with_reducible refine (sameB_c _ _ _ m7 _ _ _ m7 _ (hbs7.out.ext ?_) (hbs8.out.ext ?_)).mono ?_); (repeat (first | with_reducible exact Ext.refl _ | with_reducible apply Ext.alloc | with_reducible apply Ext.drew | with_reducible apply Ext.drewN | (apply Ext.trans'; assumption))); (repeat (first | with_reducible exact Ext.refl _ | with_reducible apply Ext.alloc | with_reducible apply Ext.drew | with_reducible apply Ext.drewN | (apply Ext.trans'; assumption))); rintro e w20 ⟨rfl, hx20⟩; rw [sameB_refl]; have q0 := (show Ext wr w20 by (repeat (first | with_reducible exact Ext.refl _ | with_reducible apply Ext.alloc | with_reducible apply Ext.drew | with_reducible apply Ext.drewN | (apply Ext.trans'; assumption)))).cell hcm7; have q1 := (show Ext wr w20 by (repeat (first | with_reducible exact Ext.refl _ | with_reducible apply Ext.alloc | with_reducible apply Ext.drew | with_reducible apply Ext.drewN | (apply Ext.trans'; assumption)))).cell hcm8))
            go_wp2
            go_roundw
            case rel => exact ⟨q + 1, by omega, by go_num, HXR.out.trans (by (repeat (first | with_reducible exact Ext.refl _ | with_reducible apply Ext.alloc | with_reducible apply Ext.drew | with_reducible apply Ext.drewN | (apply Ext.trans'; assumption))))⟩
            case measure => simp [intOf]; omega
          · go_wp2_with fail
            refine (law22awake_c _).mono ?_
            rintro e w30 ⟨rfl, hx30⟩
            go_wp2_with fail
            go_ret
            exact ⟨rfl, HX8.out.trans (HXR.out.trans hx30)⟩
      · have HQ := Lib.hid hq0
        have h0i : ¬ (0 : Int) < ((modelsV x L).length : Int) := by omega
        have h0n : ¬ 0 < (modelsV x L).length := by omega
        clear h0len
        clear hq0
        go_enter Try.func3, Try.ntmps3
        go_wp2_with fail
        refine (few22_c x _ _ _ L _ (HF.out.sl.ext HX0.out)).mono ?_
        rintro e w1 ⟨rfl, hx⟩
        rw [HW.out]
        have HX1 := Lib.hid (HX0.out.trans hx)
        have HB := Lib.hid (HB.out.ext hx)
        clear hx
        have b0 : w1.cell? ⟨w.heap.size, 0, none⟩ = some (.int .i64 x) := HB.out.cell 0
        have b1 : w1.cell? ⟨w.heap.size, 1, none⟩ = some (.slice A n c) := HB.out.cell 1
        go_wp2_with fail
        refine (r22All_c x _ _ _ L _ (HF.out.ext HX1.out)).mono ?_
        rintro e w2 ⟨A3, c3, rfl, hms, hx⟩
        have HMS := Lib.hid hms
        clear hms
        have HX2 := Lib.hid (HX1.out.trans hx)
        have HB := Lib.hid (HB.out.ext hx)
        clear hx
        clear b0 b1
        have b0 : w2.cell? ⟨w.heap.size, 0, none⟩ = some (.int .i64 x) := HB.out.cell 0
        have b1 : w2.cell? ⟨w.heap.size, 1, none⟩ = some (.slice A n c) := HB.out.cell 1
        go_wp2_with fail
        refine (countM_c x _ _ _ L _ (HF.out.sl.ext HX2.out) hnsm).mono ?_
        rintro e w3 ⟨rfl, hx⟩
        have HX3 := Lib.hid (HX2.out.trans hx)
        have HB := Lib.hid (HB.out.ext hx)
        have HMS := Lib.hid (HMS.out.ext hx)
        clear hx
        clear b0 b1
        have b0 : w3.cell? ⟨w.heap.size, 0, none⟩ = some (.int .i64 x) := HB.out.cell 0
        have b1 : w3.cell? ⟨w.heap.size, 1, none⟩ = some (.slice A n c) := HB.out.cell 1
        go_wp2_with fail
        refine (r22Check_c x _ _ _ L _ (HF.out.ext HX3.out)).mono ?_
        rintro e w4 ⟨rfl, hx⟩
        have HX4 := Lib.hid (HX3.out.trans hx)
        have HB := Lib.hid (HB.out.ext hx)
        have HMS := Lib.hid (HMS.out.ext hx)
        clear hx
        clear b0 b1
        have b0 : w4.cell? ⟨w.heap.size, 0, none⟩ = some (.int .i64 x) := HB.out.cell 0
        have b1 : w4.cell? ⟨w.heap.size, 1, none⟩ = some (.slice A n c) := HB.out.cell 1
        generalize bCheckV x L = bc
        go_wp2_with fail
        refine (nthM_c x _ _ _ L n2 _ (HF.out.sl.ext HX4.out) hnsm).mono ?_
        rintro e w5 ⟨A5, k5, c5, mm5, rfl, hs5, hx, hm5⟩
        rw [HP.out] at hm5
        have hsm : (nthM x L n2).isSome = false := by rw [HP.out]; rfl
        rw [hsm]
        have HS5 := Lib.hid hs5
        have HM5 := Lib.hid hm5
        clear hs5 hm5 hsm
        have HX5 := Lib.hid (HX4.out.trans hx)
        have HB := Lib.hid (HB.out.ext hx)
        have HMS := Lib.hid (HMS.out.ext hx)
        clear hx
        clear b0 b1
        have b0 : w5.cell? ⟨w.heap.size, 0, none⟩ = some (.int .i64 x) := HB.out.cell 0
        have b1 : w5.cell? ⟨w.heap.size, 1, none⟩ = some (.slice A n c) := HB.out.cell 1
        have hk5 : k5 = 0 := by rw [← HS5.out.1, HM5.out]; rfl
        subst hk5
        go_wp2_with fail
        refine (firstM_c x _ _ _ L _ (HF.out.sl.ext HX5.out) hnsm).mono ?_
        rintro e w6 ⟨A6, k6, c6, mm6, rfl, hs6, hx, hm6⟩
        rw [HQ.out] at hm6
        have hsm : (nthM x L 0).isSome = false := by rw [HQ.out]; rfl
        rw [hsm]
        have HS6 := Lib.hid hs6
        have HM6 := Lib.hid hm6
        clear hs6 hm6 hsm
        have HX6 := Lib.hid (HX5.out.trans hx)
        have HB := Lib.hid (HB.out.ext hx)
        have HMS := Lib.hid (HMS.out.ext hx)
        clear hx
        clear b0 b1
        have b0 : w6.cell? ⟨w.heap.size, 0, none⟩ = some (.int .i64 x) := HB.out.cell 0
        have b1 : w6.cell? ⟨w.heap.size, 1, none⟩ = some (.slice A n c) := HB.out.cell 1
        go_wp2_with fail
        refine (lawAll_c x _ _ _ L 1000 _ (HF.out.sl.ext HX6.out) hnsm).mono ?_
        rintro e w7 ⟨A7, n7, c7, rfl, hr, hx⟩
        rw [HT.out] at hr
        obtain rfl : (modelsV x L).length = n7 := hr.1
        have HR7 := Lib.hid hr
        clear hr
        have HX7 := Lib.hid (HX6.out.trans hx)
        have HB := Lib.hid (HB.out.ext hx)
        have HMS := Lib.hid (HMS.out.ext hx)
        clear hx
        clear b0 b1
        have b0 : w7.cell? ⟨w.heap.size, 0, none⟩ = some (.int .i64 x) := HB.out.cell 0
        have b1 : w7.cell? ⟨w.heap.size, 1, none⟩ = some (.slice A n c) := HB.out.cell 1
        go_wp2_with fail
        go_loopw [11] (fun i wr => ∃ q : Nat, q ≤ (modelsV x L).length ∧ i = .int .i64 q ∧ Ext w7 wr) (fun i _ => (modelsV x L).length - (intOf i).toNat)
        case atStart => exact ⟨0, Nat.zero_le _, rfl, Ext.refl _⟩
        case round =>
          obtain ⟨q, hq, rfl, hxr⟩ := hrel
          have HXR := Lib.hid hxr
          by_cases hlt : q < (modelsV x L).length
          · obtain ⟨ad7, m7, A71, n71, c71, had7, hm7, hcm7, hbs7⟩ := (HR7.out.ext hxr).at_ hlt
            obtain ⟨ad8, m8, A81, n81, c81, had8, hm8, hcm8, hbs8⟩ := (HMS.out.ext hxr).at_ hlt
            subst had7
            subst had8
            obtain rfl : m7 = m8 := Option.some.inj (hm7.out.symm.trans hm8.out)
            have z0 : (0 : Int) ≤ (q : Int) := by omega
            have z1 : (q : Int) < ((modelsV x L).length : Int) := by omega
            clear hxr
            go_wp2
            go_region_held3 (fun w' => w'.cell? (ad7.add q) = some (.slice A71 n71 c71) ∧ w'.cell? (ad8.add q) = some (.slice A81 n81 c81))
              (first | exact ⟨q0, q1⟩ | exact ⟨Ext.cell ((Ext.refl _).drew) hcm7, Ext.cell ((Ext.refl _).drew) hcm8⟩ | with_reducible assumption | (go_split_ands; refine ⟨?_, ?_⟩ <;> with_reducible assumption))
              (first | (go_at_call 13; (with_reducible refine (sameB_c _ _ _ m7 _ _ _ m7 _ (hbs7.out.ext ?_) (hbs8.out.ext ?_)).mono ?_); (repeat (first | with_reducible exact Ext.refl _ | with_reducible apply Ext.alloc | with_reducible apply Ext.drew | with_reducible apply Ext.drewN | (apply Ext.trans'; assumption))); (repeat (first | with_reducible exact Ext.refl _ | with_reducible apply Ext.alloc | with_reducible apply Ext.drew | with_reducible apply Ext.drewN | (apply Ext.trans'; assumption))); rintro e w20 ⟨rfl, hx20⟩; rw [sameB_refl]; have q0 := (show Ext wr w20 by (repeat (first | with_reducible exact Ext.refl _ | with_reducible apply Ext.alloc | with_reducible apply Ext.drew | with_reducible apply Ext.drewN | (apply Ext.trans'; assumption)))).cell hcm7; have q1 := (show Ext wr w20 by (repeat (first | with_reducible exact Ext.refl _ | with_reducible apply Ext.alloc | with_reducible apply Ext.drew | with_reducible apply Ext.drewN | (apply Ext.trans'; assumption)))).cell hcm8))
            go_wp2
            go_roundw
            case rel => exact ⟨q + 1, by omega, by go_num, HXR.out.trans (by (repeat (first | with_reducible exact Ext.refl _ | with_reducible apply Ext.alloc | with_reducible apply Ext.drew | with_reducible apply Ext.drewN | (apply Ext.trans'; assumption))))⟩
            case measure => simp [intOf]; omega
          · go_wp2_with fail
            refine (law22awake_c _).mono ?_
            rintro e w30 ⟨rfl, hx30⟩
            go_wp2_with fail
            go_ret
            exact ⟨rfl, HX7.out.trans (HXR.out.trans hx30)⟩
    · have HP := Lib.hid hp
      clear hp
      rcases hfirst with ⟨m0, h0len, hm0, hq0⟩ | ⟨h0len, hq0⟩
      · have HQ := Lib.hid hq0
        have HMQ := Lib.hid hm0
        have h0i : (0 : Int) < ((modelsV x L).length : Int) := by omega
        clear hm0
        clear hq0
        go_enter Try.func3, Try.ntmps3
        go_wp2_with fail
        refine (few22_c x _ _ _ L _ (HF.out.sl.ext HX0.out)).mono ?_
        rintro e w1 ⟨rfl, hx⟩
        rw [HW.out]
        have HX1 := Lib.hid (HX0.out.trans hx)
        have HB := Lib.hid (HB.out.ext hx)
        clear hx
        have b0 : w1.cell? ⟨w.heap.size, 0, none⟩ = some (.int .i64 x) := HB.out.cell 0
        have b1 : w1.cell? ⟨w.heap.size, 1, none⟩ = some (.slice A n c) := HB.out.cell 1
        go_wp2_with fail
        refine (r22All_c x _ _ _ L _ (HF.out.ext HX1.out)).mono ?_
        rintro e w2 ⟨A3, c3, rfl, hms, hx⟩
        have HMS := Lib.hid hms
        clear hms
        have HX2 := Lib.hid (HX1.out.trans hx)
        have HB := Lib.hid (HB.out.ext hx)
        clear hx
        clear b0 b1
        have b0 : w2.cell? ⟨w.heap.size, 0, none⟩ = some (.int .i64 x) := HB.out.cell 0
        have b1 : w2.cell? ⟨w.heap.size, 1, none⟩ = some (.slice A n c) := HB.out.cell 1
        go_wp2_with fail
        refine (countM_c x _ _ _ L _ (HF.out.sl.ext HX2.out) hnsm).mono ?_
        rintro e w3 ⟨rfl, hx⟩
        have HX3 := Lib.hid (HX2.out.trans hx)
        have HB := Lib.hid (HB.out.ext hx)
        have HMS := Lib.hid (HMS.out.ext hx)
        clear hx
        clear b0 b1
        have b0 : w3.cell? ⟨w.heap.size, 0, none⟩ = some (.int .i64 x) := HB.out.cell 0
        have b1 : w3.cell? ⟨w.heap.size, 1, none⟩ = some (.slice A n c) := HB.out.cell 1
        go_wp2_with fail
        refine (r22Check_c x _ _ _ L _ (HF.out.ext HX3.out)).mono ?_
        rintro e w4 ⟨rfl, hx⟩
        have HX4 := Lib.hid (HX3.out.trans hx)
        have HB := Lib.hid (HB.out.ext hx)
        have HMS := Lib.hid (HMS.out.ext hx)
        clear hx
        clear b0 b1
        have b0 : w4.cell? ⟨w.heap.size, 0, none⟩ = some (.int .i64 x) := HB.out.cell 0
        have b1 : w4.cell? ⟨w.heap.size, 1, none⟩ = some (.slice A n c) := HB.out.cell 1
        generalize bCheckV x L = bc
        go_wp2_with fail
        refine (nthM_c x _ _ _ L n2 _ (HF.out.sl.ext HX4.out) hnsm).mono ?_
        rintro e w5 ⟨A5, k5, c5, mm5, rfl, hs5, hx, hm5⟩
        rw [HP.out] at hm5
        have hsm : (nthM x L n2).isSome = false := by rw [HP.out]; rfl
        rw [hsm]
        have HS5 := Lib.hid hs5
        have HM5 := Lib.hid hm5
        clear hs5 hm5 hsm
        have HX5 := Lib.hid (HX4.out.trans hx)
        have HB := Lib.hid (HB.out.ext hx)
        have HMS := Lib.hid (HMS.out.ext hx)
        clear hx
        clear b0 b1
        have b0 : w5.cell? ⟨w.heap.size, 0, none⟩ = some (.int .i64 x) := HB.out.cell 0
        have b1 : w5.cell? ⟨w.heap.size, 1, none⟩ = some (.slice A n c) := HB.out.cell 1
        have hk5 : k5 = 0 := by rw [← HS5.out.1, HM5.out]; rfl
        subst hk5
        go_wp2_with fail
        refine (firstM_c x _ _ _ L _ (HF.out.sl.ext HX5.out) hnsm).mono ?_
        rintro e w6 ⟨A6, k6, c6, mm6, rfl, hs6, hx, hm6⟩
        rw [HQ.out] at hm6
        have hsm : (nthM x L 0).isSome = true := by rw [HQ.out]; rfl
        rw [hsm]
        have HS6 := Lib.hid hs6
        have HM6 := Lib.hid hm6
        clear hs6 hm6 hsm
        have HX6 := Lib.hid (HX5.out.trans hx)
        have HB := Lib.hid (HB.out.ext hx)
        have HMS := Lib.hid (HMS.out.ext hx)
        clear hx
        clear b0 b1
        have b0 : w6.cell? ⟨w.heap.size, 0, none⟩ = some (.int .i64 x) := HB.out.cell 0
        have b1 : w6.cell? ⟨w.heap.size, 1, none⟩ = some (.slice A n c) := HB.out.cell 1
        obtain ⟨ad, m2, A12, n12, c12, rfl, hm2, hcm2, hbs2⟩ := HMS.out.at_ h0len
        rw [Addr.add_zero'] at hcm2
        go_wp2_with fail
        refine (sameB_c _ _ _ mm6 _ _ _ m2 _ HS6.out hbs2.out).mono ?_
        rintro e w7 ⟨rfl, hx⟩
        have hsb : sameB mm6 m2 = true := by rw [HM6.out, Option.some.inj (hm2.out.symm.trans HMQ.out)]; exact sameB_refl _
        rw [hsb]
        clear hsb hcm2
        have HX7 := Lib.hid (HX6.out.trans hx)
        have HB := Lib.hid (HB.out.ext hx)
        have HMS := Lib.hid (HMS.out.ext hx)
        clear hx
        clear b0 b1
        have b0 : w7.cell? ⟨w.heap.size, 0, none⟩ = some (.int .i64 x) := HB.out.cell 0
        have b1 : w7.cell? ⟨w.heap.size, 1, none⟩ = some (.slice A n c) := HB.out.cell 1
        go_wp2_with fail
        refine (lawAll_c x _ _ _ L 1000 _ (HF.out.sl.ext HX7.out) hnsm).mono ?_
        rintro e w8 ⟨A7, n7, c7, rfl, hr, hx⟩
        rw [HT.out] at hr
        obtain rfl : (modelsV x L).length = n7 := hr.1
        have HR7 := Lib.hid hr
        clear hr
        have HX8 := Lib.hid (HX7.out.trans hx)
        have HB := Lib.hid (HB.out.ext hx)
        have HMS := Lib.hid (HMS.out.ext hx)
        clear hx
        clear b0 b1
        have b0 : w8.cell? ⟨w.heap.size, 0, none⟩ = some (.int .i64 x) := HB.out.cell 0
        have b1 : w8.cell? ⟨w.heap.size, 1, none⟩ = some (.slice A n c) := HB.out.cell 1
        go_wp2_with fail
        go_loopw [11] (fun i wr => ∃ q : Nat, q ≤ (modelsV x L).length ∧ i = .int .i64 q ∧ Ext w8 wr) (fun i _ => (modelsV x L).length - (intOf i).toNat)
        case atStart => exact ⟨0, Nat.zero_le _, rfl, Ext.refl _⟩
        case round =>
          obtain ⟨q, hq, rfl, hxr⟩ := hrel
          have HXR := Lib.hid hxr
          by_cases hlt : q < (modelsV x L).length
          · obtain ⟨ad7, m7, A71, n71, c71, had7, hm7, hcm7, hbs7⟩ := (HR7.out.ext hxr).at_ hlt
            obtain ⟨ad8, m8, A81, n81, c81, had8, hm8, hcm8, hbs8⟩ := (HMS.out.ext hxr).at_ hlt
            subst had7
            obtain rfl := Option.some.inj had8
            obtain rfl : m7 = m8 := Option.some.inj (hm7.out.symm.trans hm8.out)
            have z0 : (0 : Int) ≤ (q : Int) := by omega
            have z1 : (q : Int) < ((modelsV x L).length : Int) := by omega
            clear hxr
            go_wp2
            go_region_held3 (fun w' => w'.cell? (ad7.add q) = some (.slice A71 n71 c71) ∧ w'.cell? (ad.add q) = some (.slice A81 n81 c81))
              (first | exact ⟨q0, q1⟩ | exact ⟨Ext.cell ((Ext.refl _).drew) hcm7, Ext.cell ((Ext.refl _).drew) hcm8⟩ | with_reducible assumption | (go_split_ands; refine ⟨?_, ?_⟩ <;> with_reducible assumption))
              (first | (go_at_call 13; (with_reducible refine (sameB_c _ _ _ m7 _ _ _ m7 _ (hbs7.out.ext ?_) (hbs8.out.ext ?_)).mono ?_); (repeat (first | with_reducible exact Ext.refl _ | with_reducible apply Ext.alloc | with_reducible apply Ext.drew | with_reducible apply Ext.drewN | (apply Ext.trans'; assumption))); (repeat (first | with_reducible exact Ext.refl _ | with_reducible apply Ext.alloc | with_reducible apply Ext.drew | with_reducible apply Ext.drewN | (apply Ext.trans'; assumption))); rintro e w20 ⟨rfl, hx20⟩; rw [sameB_refl]; have q0 := (show Ext wr w20 by (repeat (first | with_reducible exact Ext.refl _ | with_reducible apply Ext.alloc | with_reducible apply Ext.drew | with_reducible apply Ext.drewN | (apply Ext.trans'; assumption)))).cell hcm7; have q1 := (show Ext wr w20 by (repeat (first | with_reducible exact Ext.refl _ | with_reducible apply Ext.alloc | with_reducible apply Ext.drew | with_reducible apply Ext.drewN | (apply Ext.trans'; assumption)))).cell hcm8))
            go_wp2
            go_roundw
            case rel => exact ⟨q + 1, by omega, by go_num, HXR.out.trans (by (repeat (first | with_reducible exact Ext.refl _ | with_reducible apply Ext.alloc | with_reducible apply Ext.drew | with_reducible apply Ext.drewN | (apply Ext.trans'; assumption))))⟩
            case measure => simp [intOf]; omega
          · go_wp2_with fail
            refine (law22awake_c _).mono ?_
            rintro e w30 ⟨rfl, hx30⟩
            go_wp2_with fail
            go_ret
            exact ⟨rfl, HX8.out.trans (HXR.out.trans hx30)⟩
      · have HQ := Lib.hid hq0
        have h0i : ¬ (0 : Int) < ((modelsV x L).length : Int) := by omega
        have h0n : ¬ 0 < (modelsV x L).length := by omega
        clear h0len
        clear hq0
        go_enter Try.func3, Try.ntmps3
        go_wp2_with fail
        refine (few22_c x _ _ _ L _ (HF.out.sl.ext HX0.out)).mono ?_
        rintro e w1 ⟨rfl, hx⟩
        rw [HW.out]
        have HX1 := Lib.hid (HX0.out.trans hx)
        have HB := Lib.hid (HB.out.ext hx)
        clear hx
        have b0 : w1.cell? ⟨w.heap.size, 0, none⟩ = some (.int .i64 x) := HB.out.cell 0
        have b1 : w1.cell? ⟨w.heap.size, 1, none⟩ = some (.slice A n c) := HB.out.cell 1
        go_wp2_with fail
        refine (r22All_c x _ _ _ L _ (HF.out.ext HX1.out)).mono ?_
        rintro e w2 ⟨A3, c3, rfl, hms, hx⟩
        have HMS := Lib.hid hms
        clear hms
        have HX2 := Lib.hid (HX1.out.trans hx)
        have HB := Lib.hid (HB.out.ext hx)
        clear hx
        clear b0 b1
        have b0 : w2.cell? ⟨w.heap.size, 0, none⟩ = some (.int .i64 x) := HB.out.cell 0
        have b1 : w2.cell? ⟨w.heap.size, 1, none⟩ = some (.slice A n c) := HB.out.cell 1
        go_wp2_with fail
        refine (countM_c x _ _ _ L _ (HF.out.sl.ext HX2.out) hnsm).mono ?_
        rintro e w3 ⟨rfl, hx⟩
        have HX3 := Lib.hid (HX2.out.trans hx)
        have HB := Lib.hid (HB.out.ext hx)
        have HMS := Lib.hid (HMS.out.ext hx)
        clear hx
        clear b0 b1
        have b0 : w3.cell? ⟨w.heap.size, 0, none⟩ = some (.int .i64 x) := HB.out.cell 0
        have b1 : w3.cell? ⟨w.heap.size, 1, none⟩ = some (.slice A n c) := HB.out.cell 1
        go_wp2_with fail
        refine (r22Check_c x _ _ _ L _ (HF.out.ext HX3.out)).mono ?_
        rintro e w4 ⟨rfl, hx⟩
        have HX4 := Lib.hid (HX3.out.trans hx)
        have HB := Lib.hid (HB.out.ext hx)
        have HMS := Lib.hid (HMS.out.ext hx)
        clear hx
        clear b0 b1
        have b0 : w4.cell? ⟨w.heap.size, 0, none⟩ = some (.int .i64 x) := HB.out.cell 0
        have b1 : w4.cell? ⟨w.heap.size, 1, none⟩ = some (.slice A n c) := HB.out.cell 1
        generalize bCheckV x L = bc
        go_wp2_with fail
        refine (nthM_c x _ _ _ L n2 _ (HF.out.sl.ext HX4.out) hnsm).mono ?_
        rintro e w5 ⟨A5, k5, c5, mm5, rfl, hs5, hx, hm5⟩
        rw [HP.out] at hm5
        have hsm : (nthM x L n2).isSome = false := by rw [HP.out]; rfl
        rw [hsm]
        have HS5 := Lib.hid hs5
        have HM5 := Lib.hid hm5
        clear hs5 hm5 hsm
        have HX5 := Lib.hid (HX4.out.trans hx)
        have HB := Lib.hid (HB.out.ext hx)
        have HMS := Lib.hid (HMS.out.ext hx)
        clear hx
        clear b0 b1
        have b0 : w5.cell? ⟨w.heap.size, 0, none⟩ = some (.int .i64 x) := HB.out.cell 0
        have b1 : w5.cell? ⟨w.heap.size, 1, none⟩ = some (.slice A n c) := HB.out.cell 1
        have hk5 : k5 = 0 := by rw [← HS5.out.1, HM5.out]; rfl
        subst hk5
        go_wp2_with fail
        refine (firstM_c x _ _ _ L _ (HF.out.sl.ext HX5.out) hnsm).mono ?_
        rintro e w6 ⟨A6, k6, c6, mm6, rfl, hs6, hx, hm6⟩
        rw [HQ.out] at hm6
        have hsm : (nthM x L 0).isSome = false := by rw [HQ.out]; rfl
        rw [hsm]
        have HS6 := Lib.hid hs6
        have HM6 := Lib.hid hm6
        clear hs6 hm6 hsm
        have HX6 := Lib.hid (HX5.out.trans hx)
        have HB := Lib.hid (HB.out.ext hx)
        have HMS := Lib.hid (HMS.out.ext hx)
        clear hx
        clear b0 b1
        have b0 : w6.cell? ⟨w.heap.size, 0, none⟩ = some (.int .i64 x) := HB.out.cell 0
        have b1 : w6.cell? ⟨w.heap.size, 1, none⟩ = some (.slice A n c) := HB.out.cell 1
        go_wp2_with fail
        refine (lawAll_c x _ _ _ L 1000 _ (HF.out.sl.ext HX6.out) hnsm).mono ?_
        rintro e w7 ⟨A7, n7, c7, rfl, hr, hx⟩
        rw [HT.out] at hr
        obtain rfl : (modelsV x L).length = n7 := hr.1
        have HR7 := Lib.hid hr
        clear hr
        have HX7 := Lib.hid (HX6.out.trans hx)
        have HB := Lib.hid (HB.out.ext hx)
        have HMS := Lib.hid (HMS.out.ext hx)
        clear hx
        clear b0 b1
        have b0 : w7.cell? ⟨w.heap.size, 0, none⟩ = some (.int .i64 x) := HB.out.cell 0
        have b1 : w7.cell? ⟨w.heap.size, 1, none⟩ = some (.slice A n c) := HB.out.cell 1
        go_wp2_with fail
        go_loopw [11] (fun i wr => ∃ q : Nat, q ≤ (modelsV x L).length ∧ i = .int .i64 q ∧ Ext w7 wr) (fun i _ => (modelsV x L).length - (intOf i).toNat)
        case atStart => exact ⟨0, Nat.zero_le _, rfl, Ext.refl _⟩
        case round =>
          obtain ⟨q, hq, rfl, hxr⟩ := hrel
          have HXR := Lib.hid hxr
          by_cases hlt : q < (modelsV x L).length
          · obtain ⟨ad7, m7, A71, n71, c71, had7, hm7, hcm7, hbs7⟩ := (HR7.out.ext hxr).at_ hlt
            obtain ⟨ad8, m8, A81, n81, c81, had8, hm8, hcm8, hbs8⟩ := (HMS.out.ext hxr).at_ hlt
            subst had7
            subst had8
            obtain rfl : m7 = m8 := Option.some.inj (hm7.out.symm.trans hm8.out)
            have z0 : (0 : Int) ≤ (q : Int) := by omega
            have z1 : (q : Int) < ((modelsV x L).length : Int) := by omega
            clear hxr
            go_wp2
            go_region_held3 (fun w' => w'.cell? (ad7.add q) = some (.slice A71 n71 c71) ∧ w'.cell? (ad8.add q) = some (.slice A81 n81 c81))
              (first | exact ⟨q0, q1⟩ | exact ⟨Ext.cell ((Ext.refl _).drew) hcm7, Ext.cell ((Ext.refl _).drew) hcm8⟩ | with_reducible assumption | (go_split_ands; refine ⟨?_, ?_⟩ <;> with_reducible assumption))
              (first | (go_at_call 13; (with_reducible refine (sameB_c _ _ _ m7 _ _ _ m7 _ (hbs7.out.ext ?_) (hbs8.out.ext ?_)).mono ?_); (repeat (first | with_reducible exact Ext.refl _ | with_reducible apply Ext.alloc | with_reducible apply Ext.drew | with_reducible apply Ext.drewN | (apply Ext.trans'; assumption))); (repeat (first | with_reducible exact Ext.refl _ | with_reducible apply Ext.alloc | with_reducible apply Ext.drew | with_reducible apply Ext.drewN | (apply Ext.trans'; assumption))); rintro e w20 ⟨rfl, hx20⟩; rw [sameB_refl]; have q0 := (show Ext wr w20 by (repeat (first | with_reducible exact Ext.refl _ | with_reducible apply Ext.alloc | with_reducible apply Ext.drew | with_reducible apply Ext.drewN | (apply Ext.trans'; assumption)))).cell hcm7; have q1 := (show Ext wr w20 by (repeat (first | with_reducible exact Ext.refl _ | with_reducible apply Ext.alloc | with_reducible apply Ext.drew | with_reducible apply Ext.drewN | (apply Ext.trans'; assumption)))).cell hcm8))
            go_wp2
            go_roundw
            case rel => exact ⟨q + 1, by omega, by go_num, HXR.out.trans (by (repeat (first | with_reducible exact Ext.refl _ | with_reducible apply Ext.alloc | with_reducible apply Ext.drew | with_reducible apply Ext.drewN | (apply Ext.trans'; assumption))))⟩
            case measure => simp [intOf]; omega
          · go_wp2_with fail
            refine (law22awake_c _).mono ?_
            rintro e w30 ⟨rfl, hx30⟩
            go_wp2_with fail
            go_ret
            exact ⟨rfl, HX7.out.trans (HXR.out.trans hx30)⟩
end Go.Proofs.Ytdiapihfjmbgoaa
