/- Layer 22 (brute), the reference: Follows, Equal. -/
import Derived.Test.YtdiapihfjmbgoaaBr17
set_option maxRecDepth 100000
namespace Go.Proofs.Ytdiapihfjmbgoaa
open Go.RowKit

theorem all_models (v : Int) (L : List (List Int)) (c : List Int) : ((setsV v L).all fun m => holdsV c (bitsV m v.toNat)) = (modelsV v L).all fun m => holdsV c m := by
  unfold modelsV
  rw [List.all_map]
  rfl
theorem all_take_succ {α : Type} {l : List α} {k : Nat} {x : α} {p : α → Bool} (h : (l.take k).all p = true) (hx : l[k]? = some x) (hp : p x = true) : (l.take (k + 1)).all p = true := by
  rw [take_succ_of hx, List.all_append, h]; simp [hp]
theorem all_hit {α : Type} {l : List α} {k : Nat} {x : α} {p : α → Bool} (hx : l[k]? = some x) (hp : p x = false) : l.all p = false := by
  rw [List.all_eq_false]; exact ⟨x, List.mem_of_getElem? hx, by simp [hp]⟩

set_option maxHeartbeats 2000000 in
theorem r22Follows_c (v : Int) (A : Option Addr) (n c : Nat) (L : List (List Int)) (A' : Option Addr) (n' c' : Nat) (cl : List Int) (w : World) (h : RowsW w A n L) (h' : IntSl w A' n' cl) (hc' : n' ≤ c') :
    Calls Try.prog 17 #[.agg #[.int .i64 v, .slice A n c], .slice A' n' c'] w fun e w' => e = .returned (.tuple #[.bool (bFollowsV v L cl).1, .int .i64 (bFollowsV v L cl).2]) ∧ Ext w w' := by
  have hX := (Ext.refl w).alloc (Obj.cells #[.int .i64 v, .slice A n c] 24)
  have HB := Lib.hid (Blk.new w 24 #[.int .i64 v, .slice A n c])
  have HX := Lib.hid hX
  have HR := Lib.hid h
  have HC := Lib.hid h'
  clear h hX h'
  by_cases hb : bCheckV v L = 0
  · have HBC := Lib.hid hb
    by_cases hcc : cCheckV cl v = 0
    · have HCC := Lib.hid hcc
      have HV : Hid (bFollowsV v L cl = ((modelsV v L).all (fun m => holdsV cl m), 0)) := by unfold Hid bFollowsV; rw [if_neg (by simp [hb]), if_neg (by simp [hcc]), all_models]
      have hml := modelsV_len v L
      clear hb hcc
      go_enter Try.func17, Try.ntmps17
      go_wp2_with fail
      refine (r22Check_c v _ _ _ L _ (HR.out.ext HX.out)).mono ?_
      rintro e w1 ⟨rfl, hx1⟩
      rw [HBC.out]
      have a0 : w1.cell? ⟨w.heap.size, 0, none⟩ = some (.int .i64 v) := (HB.out.ext hx1).cell 0
      have HX1 := Lib.hid (HX.out.trans hx1)
      have HB1 := Lib.hid (HB.out.ext hx1)
      clear hx1
      go_wp2_with fail
      refine (r2Check_c _ _ _ cl v _ (HC.out.ext HX1.out) hc').mono ?_
      rintro e w2 ⟨rfl, hx2⟩
      rw [HCC.out]
      have b0 : w2.cell? ⟨w.heap.size, 0, none⟩ = some (.int .i64 v) := (HB1.out.ext hx2).cell 0
      have b1 : w2.cell? ⟨w.heap.size, 1, none⟩ = some (.slice A n c) := (HB1.out.ext hx2).cell 1
      have HX2 := Lib.hid (HX1.out.trans hx2)
      clear hx2 a0
      go_wp2_with fail
      refine (r22All_c v _ _ _ L _ (HR.out.ext HX2.out)).mono ?_
      rintro e w3 ⟨A3, c3, rfl, hms, hx3⟩
      have HMS := Lib.hid hms
      have HX3 := Lib.hid (HX2.out.trans hx3)
      clear hms hx3 b0 b1
      generalize modelsV v L = ms at HV hml HMS
      go_wp2_with fail
      go_loop [8] (fun i => ∃ k : Nat, k ≤ ms.length ∧ i = .int .i64 k ∧ (ms.take k).all (fun m => holdsV cl m) = true) (fun i => ms.length - (intOf i).toNat)
      case atStart => exact ⟨0, Nat.zero_le _, rfl, rfl⟩
      case round =>
        obtain ⟨k, hk, rfl, ha⟩ := hrel
        have HA := Lib.hid ha
        clear ha
        by_cases hlt : k < ms.length
        · obtain ⟨ad, m, A1, n1, c1, rfl, hm, hcm, hbs⟩ := HMS.out.at_ hlt
          cases hh : holdsV cl m with
          | true =>
            have HH := Lib.hid hh
            clear hh
            go_wp2_with fail
            refine (rHolds_c _ _ _ cl _ _ _ m _ (HC.out.ext HX3.out) hbs.out).mono ?_
            rintro e w4 ⟨rfl, rfl⟩
            rw [HH.out]
            go_wp2_with fail
            go_round
            case rel => exact ⟨k + 1, by omega, by go_num, all_take_succ HA.out hm.out HH.out⟩
            case measure => simp [intOf]; omega
          | false =>
            have HH := Lib.hid hh
            have HF := Lib.hid (all_hit (p := fun m => holdsV cl m) hm.out hh)
            clear hh
            go_wp2_with fail
            refine (rHolds_c _ _ _ cl _ _ _ m _ (HC.out.ext HX3.out) hbs.out).mono ?_
            rintro e w4 ⟨rfl, rfl⟩
            rw [HH.out]
            go_wp2_with fail
            go_ret2
            exact ⟨by rw [HV.out, HF.out]; rfl, HX3.out⟩
        · have ha := HA.out
          rw [take_len_of rfl hlt] at ha
          have HF := Lib.hid ha
          clear ha
          go_wp2_with fail
          go_ret2
          exact ⟨by rw [HV.out, HF.out]; rfl, HX3.out⟩
    · have HV : Hid (bFollowsV v L cl = (false, cCheckV cl v)) := by unfold Hid bFollowsV; rw [if_neg (by simp [hb]), if_pos hcc]
      have hne : (cCheckV cl v != 0) = true := by simpa using hcc
      clear hb hcc
      go_enter Try.func17, Try.ntmps17
      go_wp2_with fail
      refine (r22Check_c v _ _ _ L _ (HR.out.ext HX.out)).mono ?_
      rintro e w1 ⟨rfl, hx1⟩
      rw [HBC.out]
      have a0 : w1.cell? ⟨w.heap.size, 0, none⟩ = some (.int .i64 v) := (HB.out.ext hx1).cell 0
      have HX1 := Lib.hid (HX.out.trans hx1)
      clear hx1
      go_wp2_with fail
      refine (r2Check_c _ _ _ cl v _ (HC.out.ext HX1.out) hc').mono ?_
      rintro e w2 ⟨rfl, hx2⟩
      have HX2 := Lib.hid (HX1.out.trans hx2)
      clear hx2
      generalize cCheckV cl v = y at hne HV
      go_wp2_with fail
      go_ret2
      exact ⟨by rw [HV.out]; rfl, HX2.out⟩
  · have HV : Hid (bFollowsV v L cl = (false, bCheckV v L)) := by unfold Hid bFollowsV; rw [if_pos hb]
    have hne : (bCheckV v L != 0) = true := by simpa using hb
    have hne2 : (bCheckV v L == 0) = false := by simpa using hb
    clear hb
    go_enter Try.func17, Try.ntmps17
    go_wp2_with fail
    refine (r22Check_c v _ _ _ L _ (HR.out.ext HX.out)).mono ?_
    rintro e w1 ⟨rfl, hx1⟩
    have HX1 := Lib.hid (HX.out.trans hx1)
    clear hx1
    generalize bCheckV v L = y at hne hne2 HV
    go_wp2_with fail
    go_ret2
    exact ⟨by rw [HV.out]; rfl, HX1.out⟩

theorem filter_same {α : Type} {l : List α} {p q : α → Bool} (hlen : (l.filter p).length = (l.filter q).length) (h : ∀ m ∈ l.filter p, q m = true) : l.filter p = l.filter q := by
  have e : (l.filter q).filter p = l.filter p := by
    rw [List.filter_filter]
    apply List.filter_congr
    intro x hx
    cases hp : p x with
    | false => simp
    | true => simp [h x (List.mem_filter.2 ⟨hx, hp⟩)]
  have hs : (l.filter p).Sublist (l.filter q) := by rw [← e]; exact List.filter_sublist
  exact hs.eq_of_length hlen
/-- Two formulas' sets: as many, and each of the one's holds with the other. -/
theorem sets_same {v : Int} {La Lb : List (List Int)} (ha : bCheckV v La = 0) (hb : bCheckV v Lb = 0) : decide (setsV v La = setsV v Lb) = (decide ((modelsV v La).length = (modelsV v Lb).length) && (modelsV v La).all fun m => holdsF v Lb m) := by
  have hv := (bCheck_ok ha).1
  have key : ∀ m : Nat, holdsF v Lb (bitsV m v.toNat) = decide (firstV Lb (bitsV m v.toNat) < 0) := fun m => by
    unfold holdsF
    rw [bitsV_len, decide_eq_true (by omega), Bool.true_and]
  have eA : setsV v La = (List.range (2 ^ v.toNat)).filter fun m => decide (firstV La (bitsV m v.toNat) < 0) := by unfold setsV; rw [if_pos ha]
  have eB : setsV v Lb = (List.range (2 ^ v.toNat)).filter fun m => decide (firstV Lb (bitsV m v.toNat) < 0) := by unfold setsV; rw [if_pos hb]
  rw [Bool.eq_iff_iff, decide_eq_true_eq, Bool.and_eq_true, decide_eq_true_eq, List.all_eq_true]
  unfold modelsV
  rw [List.length_map, List.length_map]
  constructor
  · intro e
    refine ⟨by rw [e], fun x hx => ?_⟩
    obtain ⟨m, hm, rfl⟩ := List.mem_map.1 hx
    rw [e, eB] at hm
    rw [key]
    exact (List.mem_filter.1 hm).2
  · rintro ⟨e, h⟩
    rw [eA, eB] at e ⊢
    refine filter_same e fun m hm => ?_
    rw [← key]
    exact h _ (List.mem_map.2 ⟨m, by rw [eA]; exact hm, rfl⟩)

set_option maxRecDepth 100000 in
set_option maxHeartbeats 4000000 in
theorem r22Equal_c (va : Int) (Aa : Option Addr) (na ca : Nat) (La : List (List Int)) (vb : Int) (Ab : Option Addr) (nb cb : Nat) (Lb : List (List Int)) (w : World) (hRa : RowsW w Aa na La) (hRb : RowsW w Ab nb Lb) :
    Calls Try.prog 19 #[.agg #[.int .i64 va, .slice Aa na ca], .agg #[.int .i64 vb, .slice Ab nb cb]] w fun e w' => e = .returned (.tuple #[.bool (bEqualV va La vb Lb).1, .int .i64 (bEqualV va La vb Lb).2]) ∧ Ext w w' := by
  have hX := ((Ext.refl w).alloc (Obj.cells #[.int .i64 va, .slice Aa na ca] 24)).alloc (Obj.cells #[.int .i64 vb, .slice Ab nb cb] 24)
  have hB0 := (Blk.new w 24 #[.int .i64 va, .slice Aa na ca]).alloc (Obj.cells #[.int .i64 vb, .slice Ab nb cb] 24)
  have hB1 := Blk.new (w.alloc (Obj.cells #[.int .i64 va, .slice Aa na ca] 24)) 24 #[.int .i64 vb, .slice Ab nb cb]
  rw [World.size_alloc] at hB1
  have HX := Lib.hid hX
  have HB0 := Lib.hid hB0
  have HB1 := Lib.hid hB1
  have HRa := Lib.hid hRa
  have HRb := Lib.hid hRb
  clear hX hB0 hB1 hRa hRb
  by_cases h1 : bCheckV va La = 0
  · have H1 := Lib.hid h1
    by_cases h2 : bCheckV vb Lb = 0
    · have H2 := Lib.hid h2
      by_cases hv : va = vb
      · subst hv
        have HV : Hid (bEqualV va La va Lb = (decide ((modelsV va La).length = (modelsV va Lb).length) && (modelsV va La).all (fun m => holdsF va Lb m), 0)) := by
          unfold Hid bEqualV
          rw [if_neg (by simpa using h1), if_neg (by simpa using h2), if_neg (by simp), sets_same h1 h2]
        have hma := modelsV_len va La
        have hmb := modelsV_len va Lb
        clear h1 h2
        go_enter Try.func19, Try.ntmps19
        go_wp2_with fail
        refine (r22Check_c va _ _ _ La _ (HRa.out.ext HX.out)).mono ?_
        rintro e w1 ⟨rfl, hx1⟩
        rw [H1.out]
        have b0 : w1.cell? ⟨w.heap.size + 1, 0, none⟩ = some (.int .i64 va) := (HB1.out.ext hx1).cell 0
        have b1 : w1.cell? ⟨w.heap.size + 1, 1, none⟩ = some (.slice Ab nb cb) := (HB1.out.ext hx1).cell 1
        have HX1 := Lib.hid (HX.out.trans hx1)
        have HA1 := Lib.hid (HB0.out.ext hx1)
        have HB2 := Lib.hid (HB1.out.ext hx1)
        clear hx1
        go_wp2_with fail
        refine (r22Check_c va _ _ _ Lb _ (HRb.out.ext HX1.out)).mono ?_
        rintro e w2 ⟨rfl, hx2⟩
        rw [H2.out]
        have a0 : w2.cell? ⟨w.heap.size, 0, none⟩ = some (.int .i64 va) := (HA1.out.ext hx2).cell 0
        have a1 : w2.cell? ⟨w.heap.size, 1, none⟩ = some (.slice Aa na ca) := (HA1.out.ext hx2).cell 1
        have b0 : w2.cell? ⟨w.heap.size + 1, 0, none⟩ = some (.int .i64 va) := (HB2.out.ext hx2).cell 0
        have b1 : w2.cell? ⟨w.heap.size + 1, 1, none⟩ = some (.slice Ab nb cb) := (HB2.out.ext hx2).cell 1
        have HX2 := Lib.hid (HX1.out.trans hx2)
        clear hx2 HA1 HB2 HX1
        go_wp2_with fail
        go_region_held3 (fun w' => w'.cell? ⟨w.heap.size, 0, none⟩ = some (.int .i64 va) ∧ w'.cell? ⟨w.heap.size, 1, none⟩ = some (.slice Aa na ca) ∧ w'.cell? ⟨w.heap.size + 1, 0, none⟩ = some (.int .i64 va) ∧ w'.cell? ⟨w.heap.size + 1, 1, none⟩ = some (.slice Ab nb cb))
          (first | with_reducible assumption | (go_split_ands; refine ⟨?_, ?_, ?_, ?_⟩ <;> (repeat (first | with_reducible assumption | (refine Ext.cell ?_ (by assumption)) | with_reducible apply Ext.drew | with_reducible exact Ext.refl _))))
          (first
            | (go_at_call 9; (with_reducible refine (r22All_c va Aa na ca La _ (HRa.out.ext (HX2.out.trans ?_))).mono ?_); (repeat (first | with_reducible exact Ext.refl _ | with_reducible apply Ext.alloc | with_reducible apply Ext.drew | with_reducible apply Ext.drewN | (apply Ext.trans'; assumption))); rintro e w3 ⟨A3, c3, rfl, hms3, hx3⟩; have HMS3 := Lib.hid hms3; clear hms3)
            | (go_at_call 9; (with_reducible refine (r22All_c va Ab nb cb Lb _ (HRb.out.ext (HX2.out.trans ?_))).mono ?_); (repeat (first | with_reducible exact Ext.refl _ | with_reducible apply Ext.alloc | with_reducible apply Ext.drew | with_reducible apply Ext.drewN | (apply Ext.trans'; assumption))); rintro e w4 ⟨A4, c4, rfl, hms4, hx4⟩; have HMS4 := Lib.hid hms4; clear hms4))
        have hx24 : Ext w2 w4 := by (repeat (first | with_reducible exact Ext.refl _ | with_reducible apply Ext.alloc | with_reducible apply Ext.drew | with_reducible apply Ext.drewN | (apply Ext.trans'; assumption)))
        have HX4 := Lib.hid (HX2.out.trans hx24)
        have b0 : w4.cell? ⟨w.heap.size + 1, 0, none⟩ = some (.int .i64 va) := hx24.cell b0
        have b1 : w4.cell? ⟨w.heap.size + 1, 1, none⟩ = some (.slice Ab nb cb) := hx24.cell b1
        have HMS3 := Lib.hid (HMS3.out.ext hx4)
        have HRB := Lib.hid (HRb.out.sl.ext HX4.out)
        clear hx3 hx4 a0 a1 hx24
        generalize modelsV va La = ma at HV hma HMS3 ⊢
        generalize modelsV va Lb = mb at HV hmb HMS4 ⊢
        by_cases hl : ma.length = mb.length
        · have hlb : ((ma.length : Int) != (mb.length : Int)) = false := by rw [hl]; simp
          have HL := Lib.hid hl
          clear hl
          go_wp2_with fail
          go_loopw [9] (fun i wr => ∃ k : Nat, k ≤ ma.length ∧ i = .int .i64 k ∧ (ma.take k).all (fun m => holdsF va Lb m) = true ∧ Ext w4 wr) (fun i _ => ma.length - (intOf i).toNat)
          case atStart => exact ⟨0, Nat.zero_le _, rfl, rfl, Ext.refl _⟩
          case round =>
            obtain ⟨k, hk, rfl, ha, hxr⟩ := hrel
            have HA := Lib.hid ha
            have HXR := Lib.hid hxr
            have HRBr := Lib.hid (HRB.out.ext hxr)
            have d0 : wr.cell? ⟨w.heap.size + 1, 0, none⟩ = some (.int .i64 va) := hxr.cell b0
            have d1 : wr.cell? ⟨w.heap.size + 1, 1, none⟩ = some (.slice Ab nb cb) := hxr.cell b1
            clear ha
            by_cases hlt : k < ma.length
            · obtain ⟨ad, m, A1, n1, c1, rfl, hm, hcm, hbs⟩ := (HMS3.out.ext hxr).at_ hlt
              have z0 : (0 : Int) ≤ (k : Int) := by omega
              have z1 : (k : Int) < (ma.length : Int) := by omega
              clear hxr b0 b1
              cases hh : holdsF va Lb m with
              | true =>
                have HH := Lib.hid hh
                clear hh
                go_wp2_with fail
                go_region_held3 (fun w' => w'.cell? ⟨w.heap.size + 1, 0, none⟩ = some (.int .i64 va) ∧ w'.cell? ⟨w.heap.size + 1, 1, none⟩ = some (.slice Ab nb cb) ∧ w'.cell? (ad.add k) = some (.slice A1 n1 c1))
                  (first | exact ⟨q0, q1, q2⟩ | exact ⟨Ext.cell ((Ext.refl _).drew) d0, Ext.cell ((Ext.refl _).drew) d1, Ext.cell ((Ext.refl _).drew) hcm⟩ | with_reducible assumption | (go_split_ands; refine ⟨?_, ?_, ?_⟩ <;> (repeat (first | with_reducible assumption | (refine Ext.cell ?_ (by assumption)) | with_reducible apply Ext.drew | with_reducible exact Ext.refl _))))
                  (first | (go_at_call 20; (with_reducible refine (r4Holds_c va _ _ _ Lb _ _ _ m _ (HRBr.out.ext ?_) (hbs.out.ext ?_)).mono ?_); (repeat (first | with_reducible exact Ext.refl _ | with_reducible apply Ext.alloc | with_reducible apply Ext.drew | with_reducible apply Ext.drewN | (apply Ext.trans'; assumption))); (repeat (first | with_reducible exact Ext.refl _ | with_reducible apply Ext.alloc | with_reducible apply Ext.drew | with_reducible apply Ext.drewN | (apply Ext.trans'; assumption))); rintro e w5 ⟨rfl, hx5⟩; rw [HH.out]; have q0 := (show Ext wr w5 by (repeat (first | with_reducible exact Ext.refl _ | with_reducible apply Ext.alloc | with_reducible apply Ext.drew | with_reducible apply Ext.drewN | (apply Ext.trans'; assumption)))).cell d0; have q1 := (show Ext wr w5 by (repeat (first | with_reducible exact Ext.refl _ | with_reducible apply Ext.alloc | with_reducible apply Ext.drew | with_reducible apply Ext.drewN | (apply Ext.trans'; assumption)))).cell d1; have q2 := (show Ext wr w5 by (repeat (first | with_reducible exact Ext.refl _ | with_reducible apply Ext.alloc | with_reducible apply Ext.drew | with_reducible apply Ext.drewN | (apply Ext.trans'; assumption)))).cell hcm))
                go_wp2
                go_roundw
                case rel => exact ⟨k + 1, by omega, by go_num, all_take_succ HA.out hm.out HH.out, HXR.out.trans (by (repeat (first | with_reducible exact Ext.refl _ | with_reducible apply Ext.alloc | with_reducible apply Ext.drew | with_reducible apply Ext.drewN | (apply Ext.trans'; assumption))))⟩
                case measure => simp [intOf]; omega
              | false =>
                have HH := Lib.hid hh
                have HF := Lib.hid (all_hit (p := fun m => holdsF va Lb m) hm.out hh)
                clear hh
                go_wp2_with fail
                go_region_held3 (fun w' => w'.cell? ⟨w.heap.size + 1, 0, none⟩ = some (.int .i64 va) ∧ w'.cell? ⟨w.heap.size + 1, 1, none⟩ = some (.slice Ab nb cb) ∧ w'.cell? (ad.add k) = some (.slice A1 n1 c1))
                  (first | exact ⟨q0, q1, q2⟩ | exact ⟨Ext.cell ((Ext.refl _).drew) d0, Ext.cell ((Ext.refl _).drew) d1, Ext.cell ((Ext.refl _).drew) hcm⟩ | with_reducible assumption | (go_split_ands; refine ⟨?_, ?_, ?_⟩ <;> (repeat (first | with_reducible assumption | (refine Ext.cell ?_ (by assumption)) | with_reducible apply Ext.drew | with_reducible exact Ext.refl _))))
                  (first | (go_at_call 20; (with_reducible refine (r4Holds_c va _ _ _ Lb _ _ _ m _ (HRBr.out.ext ?_) (hbs.out.ext ?_)).mono ?_); (repeat (first | with_reducible exact Ext.refl _ | with_reducible apply Ext.alloc | with_reducible apply Ext.drew | with_reducible apply Ext.drewN | (apply Ext.trans'; assumption))); (repeat (first | with_reducible exact Ext.refl _ | with_reducible apply Ext.alloc | with_reducible apply Ext.drew | with_reducible apply Ext.drewN | (apply Ext.trans'; assumption))); rintro e w5 ⟨rfl, hx5⟩; rw [HH.out]; have q0 := (show Ext wr w5 by (repeat (first | with_reducible exact Ext.refl _ | with_reducible apply Ext.alloc | with_reducible apply Ext.drew | with_reducible apply Ext.drewN | (apply Ext.trans'; assumption)))).cell d0; have q1 := (show Ext wr w5 by (repeat (first | with_reducible exact Ext.refl _ | with_reducible apply Ext.alloc | with_reducible apply Ext.drew | with_reducible apply Ext.drewN | (apply Ext.trans'; assumption)))).cell d1; have q2 := (show Ext wr w5 by (repeat (first | with_reducible exact Ext.refl _ | with_reducible apply Ext.alloc | with_reducible apply Ext.drew | with_reducible apply Ext.drewN | (apply Ext.trans'; assumption)))).cell hcm))
                go_wp2
                go_ret2
                exact ⟨by rw [HV.out, HF.out, Bool.and_false]; rfl, HX4.out.trans (HXR.out.trans (by (repeat (first | with_reducible exact Ext.refl _ | with_reducible apply Ext.alloc | with_reducible apply Ext.drew | with_reducible apply Ext.drewN | (apply Ext.trans'; assumption)))))⟩
            · have ha := HA.out
              rw [take_len_of rfl hlt] at ha
              have HF := Lib.hid ha
              clear ha
              go_wp2_with fail
              go_ret2
              exact ⟨by rw [HV.out, HF.out, decide_eq_true HL.out]; rfl, HX4.out.trans HXR.out⟩
        · have hlb : ((ma.length : Int) != (mb.length : Int)) = true := by rw [bne_iff_ne]; omega
          have HL := Lib.hid hl
          clear hl
          go_wp2_with fail
          go_ret2
          exact ⟨by rw [HV.out, decide_eq_false HL.out]; rfl, HX4.out⟩
      · have HV : Hid (bEqualV va La vb Lb = (false, 2)) := by unfold Hid bEqualV; rw [if_neg (by simpa using h1), if_neg (by simpa using h2), if_pos hv]
        have hvb : (va != vb) = true := by simpa using hv
        clear h1 h2 hv
        go_enter Try.func19, Try.ntmps19
        go_wp2_with fail
        refine (r22Check_c va _ _ _ La _ (HRa.out.ext HX.out)).mono ?_
        rintro e w1 ⟨rfl, hx1⟩
        rw [H1.out]
        have b0 : w1.cell? ⟨w.heap.size + 1, 0, none⟩ = some (.int .i64 vb) := (HB1.out.ext hx1).cell 0
        have b1 : w1.cell? ⟨w.heap.size + 1, 1, none⟩ = some (.slice Ab nb cb) := (HB1.out.ext hx1).cell 1
        have HX1 := Lib.hid (HX.out.trans hx1)
        have HA1 := Lib.hid (HB0.out.ext hx1)
        have HB2 := Lib.hid (HB1.out.ext hx1)
        clear hx1
        go_wp2_with fail
        refine (r22Check_c vb _ _ _ Lb _ (HRb.out.ext HX1.out)).mono ?_
        rintro e w2 ⟨rfl, hx2⟩
        rw [H2.out]
        have a0 : w2.cell? ⟨w.heap.size, 0, none⟩ = some (.int .i64 va) := (HA1.out.ext hx2).cell 0
        have b0 : w2.cell? ⟨w.heap.size + 1, 0, none⟩ = some (.int .i64 vb) := (HB2.out.ext hx2).cell 0
        have HX2 := Lib.hid (HX1.out.trans hx2)
        clear hx2 HA1 HB2 HX1
        go_wp2_with fail
        go_ret2
        exact ⟨by rw [HV.out]; rfl, HX2.out⟩
    · have HV : Hid (bEqualV va La vb Lb = (false, bCheckV vb Lb)) := by unfold Hid bEqualV; rw [if_neg (by simpa using h1), if_pos h2]
      have hne : (bCheckV vb Lb != 0) = true := by simpa using h2
      clear h1 h2
      go_enter Try.func19, Try.ntmps19
      go_wp2_with fail
      refine (r22Check_c va _ _ _ La _ (HRa.out.ext HX.out)).mono ?_
      rintro e w1 ⟨rfl, hx1⟩
      rw [H1.out]
      have b0 : w1.cell? ⟨w.heap.size + 1, 0, none⟩ = some (.int .i64 vb) := (HB1.out.ext hx1).cell 0
      have b1 : w1.cell? ⟨w.heap.size + 1, 1, none⟩ = some (.slice Ab nb cb) := (HB1.out.ext hx1).cell 1
      have HX1 := Lib.hid (HX.out.trans hx1)
      clear hx1
      go_wp2_with fail
      refine (r22Check_c vb _ _ _ Lb _ (HRb.out.ext HX1.out)).mono ?_
      rintro e w2 ⟨rfl, hx2⟩
      have HX2 := Lib.hid (HX1.out.trans hx2)
      clear hx2
      generalize bCheckV vb Lb = y at hne HV
      go_wp2_with fail
      go_ret2
      exact ⟨by rw [HV.out]; rfl, HX2.out⟩
  · have HV : Hid (bEqualV va La vb Lb = (false, bCheckV va La)) := by unfold Hid bEqualV; rw [if_pos h1]
    have hne : (bCheckV va La != 0) = true := by simpa using h1
    have hne2 : (bCheckV va La == 0) = false := by simpa using h1
    clear h1
    go_enter Try.func19, Try.ntmps19
    go_wp2_with fail
    refine (r22Check_c va _ _ _ La _ (HRa.out.ext HX.out)).mono ?_
    rintro e w1 ⟨rfl, hx1⟩
    have HX1 := Lib.hid (HX.out.trans hx1)
    clear hx1
    generalize bCheckV va La = y at hne hne2 HV
    go_wp2_with fail
    go_ret2
    exact ⟨by rw [HV.out]; rfl, HX1.out⟩
end Go.Proofs.Ytdiapihfjmbgoaa
