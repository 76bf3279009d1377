/- Layer 22 (brute): Equal. -/
import Derived.Test.YtdiapihfjmbgoaaBr8
set_option maxRecDepth 100000
namespace Go.Proofs.Ytdiapihfjmbgoaa
open Go.RowKit Go.Shelf

def bEqualV (va : Int) (La : List (List Int)) (vb : Int) (Lb : List (List Int)) : Bool × Int :=
  if bCheckV va La ≠ 0 then (false, bCheckV va La) else if bCheckV vb Lb ≠ 0 then (false, bCheckV vb Lb) else if va ≠ vb then (false, 2) else (decide (setsV va La = setsV vb Lb), 0)

theorem setsG_c (v : Int) (A : Option Addr) (n c : Nat) (w : World) : Calls Try.prog 26 #[.agg #[.int .i64 v, .slice A n c]] w fun e w' => ∃ g, e = .returned (.func (.func 42) #[] #[.pointer (some ⟨g, 0, none⟩)]) ∧ Blk w' g 24 #[.int .i64 v, .slice A n c] ∧ Ext w w' := by
  refine (sets_c v A n c w).mono ?_
  rintro e w1 ⟨rfl, rfl⟩
  exact ⟨_, rfl, Blk.new w _ _, (Ext.refl w).alloc _⟩

set_option maxRecDepth 100000 in
set_option maxHeartbeats 4000000 in
theorem bequal_c (va : Int) (Aa : Option Addr) (na ca : Nat) (La : List (List Int)) (vb : Int) (Ab : Option Addr) (nb cb : Nat) (Lb : List (List Int)) (w : World) (hRa : RowsSl w Aa na La) (hRb : RowsSl w Ab nb Lb) (hsa : na ≤ 1000000) (hsb : nb ≤ 1000000) :
    Calls Try.prog 18 #[.agg #[.int .i64 va, .slice Aa na ca], .agg #[.int .i64 vb, .slice Ab nb cb]] w fun e w' => e = .returned (.tuple #[.bool (bEqualV va La vb Lb).1, .int .i64 (bEqualV va La vb Lb).2]) ∧ Ext w w' := by
  go_enter Try.func18, Try.ntmps18
  go_wp2_with fail
  have HX0 := Lib.hid ((((Ext.refl w).alloc (Obj.cells #[.int .i64 va, .slice Aa na ca] 24)).alloc (Obj.cells #[.int .i64 vb, .slice Ab nb cb] 24)).alloc (Obj.cells #[.int .i64 va, .slice Aa na ca, .int .i64 vb, .slice Ab nb cb] 24))
  have HB0 := ((Blk.new w 24 #[.int .i64 va, .slice Aa na ca]).alloc (Obj.cells #[.int .i64 vb, .slice Ab nb cb] 24)).alloc (Obj.cells #[.int .i64 va, .slice Aa na ca, .int .i64 vb, .slice Ab nb cb] 24)
  have HB1 := (Blk.new (w.alloc (Obj.cells #[.int .i64 va, .slice Aa na ca] 24)) 24 #[.int .i64 vb, .slice Ab nb cb]).alloc (Obj.cells #[.int .i64 va, .slice Aa na ca, .int .i64 vb, .slice Ab nb cb] 24)
  have HB2 := Blk.new ((w.alloc (Obj.cells #[.int .i64 va, .slice Aa na ca] 24)).alloc (Obj.cells #[.int .i64 vb, .slice Ab nb cb] 24)) 24 #[.int .i64 va, .slice Aa na ca, .int .i64 vb, .slice Ab nb cb]
  rw [World.size_alloc] at HB1
  rw [World.size_alloc, World.size_alloc] at HB2
  generalize ((w.alloc (Obj.cells #[.int .i64 va, .slice Aa na ca] 24)).alloc (Obj.cells #[.int .i64 vb, .slice Ab nb cb] 24)).alloc (Obj.cells #[.int .i64 va, .slice Aa na ca, .int .i64 vb, .slice Ab nb cb] 24) = w3 at HX0 HB0 HB1 HB2 ⊢
  have HB0 := Lib.hid HB0
  have HB1 := Lib.hid HB1
  have HB2 := Lib.hid HB2
  have HR := Lib.hid (And.intro (hRa.ext HX0.out) (hRb.ext HX0.out))
  clear hRa hRb
  go_loopw [13] (fun i wr => ∃ k : Nat, k ≤ 2 ∧ i = .int .i64 k ∧ (0 < k → bCheckV va La = 0) ∧ (1 < k → bCheckV vb Lb = 0) ∧ Ext w3 wr) (fun i _ => 2 - (intOf i).toNat)
  case atStart => exact ⟨0, by omega, rfl, fun h => absurd h (by omega), fun h => absurd h (by omega), Ext.refl w3⟩
  case round =>
    obtain ⟨k, hk, rfl, h1, h2, hx⟩ := hrel
    have HX := Lib.hid hx
    have hb2 := HB2.out.ext hx
    have e0 := hb2.cell 0
    have e1 := hb2.cell 1
    have e2 := hb2.cell 2
    have e3 := hb2.cell 3
    clear hx hb2
    have HQ := Lib.hid (And.intro h1 h2)
    clear h1 h2
    have hkk : k = 0 ∨ k = 1 ∨ k = 2 := by omega
    rcases hkk with rfl | rfl | rfl
    · by_cases hc : bCheckV va La = 0
      · go_wp2_with fail
        refine (bcheck_c va _ _ _ La _ (RowsSl.ext HR.out.1 (HX.out.alloc _))).mono ?_
        rintro e w4 ⟨rfl, hx4⟩
        have HX4 := Lib.hid ((HX.out.alloc _).trans hx4)
        have HC := Lib.hid hc
        rw [hc]
        clear hx4 hc
        go_wp2
        go_roundw
        case rel => exact ⟨1, by omega, by go_num, fun _ => HC.out, fun h => absurd h (by omega), HX4.out⟩
        case measure => simp [intOf]
      · have hne : (bCheckV va La != 0) = true := by simpa using hc
        have HE : Hid (bEqualV va La vb Lb = (false, bCheckV va La)) := by unfold Hid bEqualV; rw [if_pos hc]
        clear hc
        go_wp2_with fail
        refine (bcheck_c va _ _ _ La _ (RowsSl.ext HR.out.1 (HX.out.alloc _))).mono ?_
        rintro e w4 ⟨rfl, hx4⟩
        have HX4 := Lib.hid ((HX.out.alloc _).trans hx4)
        clear hx4
        go_wp2
        go_ret2
        exact ⟨by rw [HE.out]; rfl, HX0.out.trans HX4.out⟩
    · have hc0 := HQ.out.1 (by omega)
      by_cases hc : bCheckV vb Lb = 0
      · have HC := Lib.hid (And.intro hc0 hc)
        clear hc0
        go_wp2_with fail
        refine (bcheck_c vb _ _ _ Lb _ (RowsSl.ext HR.out.2 (HX.out.alloc _))).mono ?_
        rintro e w4 ⟨rfl, hx4⟩
        have HX4 := Lib.hid ((HX.out.alloc _).trans hx4)
        rw [hc]
        clear hx4 hc
        go_wp2
        go_roundw
        case rel => exact ⟨2, by omega, by go_num, fun _ => HC.out.1, fun _ => HC.out.2, HX4.out⟩
        case measure => simp [intOf]
      · have hne : (bCheckV vb Lb != 0) = true := by simpa using hc
        have HE : Hid (bEqualV va La vb Lb = (false, bCheckV vb Lb)) := by unfold Hid bEqualV; rw [if_neg (by simpa using hc0), if_pos hc]
        clear hc hc0
        go_wp2_with fail
        refine (bcheck_c vb _ _ _ Lb _ (RowsSl.ext HR.out.2 (HX.out.alloc _))).mono ?_
        rintro e w4 ⟨rfl, hx4⟩
        have HX4 := Lib.hid ((HX.out.alloc _).trans hx4)
        clear hx4
        go_wp2
        go_ret2
        exact ⟨by rw [HE.out]; rfl, HX0.out.trans HX4.out⟩
    · have hc0 := HQ.out.1 (by omega)
      have hc1 := HQ.out.2 (by omega)
      clear e0 e1 e2 e3
      have a0 := (HB0.out.ext HX.out).cell 0
      have a1 := (HB0.out.ext HX.out).cell 1
      have b0 := (HB1.out.ext HX.out).cell 0
      have b1 := (HB1.out.ext HX.out).cell 1
      by_cases hv : va = vb
      · have hvb : (va != vb) = false := by simpa using hv
        have HE : Hid (bEqualV va La vb Lb = (decide (setsV va La = setsV vb Lb), 0)) := by unfold Hid bEqualV; rw [if_neg (by simpa using hc0), if_neg (by simpa using hc1), if_neg (by simpa using hv)]
        clear hc0 hc1 hv
        go_wp2_with fail
        have HRa := Lib.hid (RowsSl.ext HR.out.1 HX.out)
        have HRb := Lib.hid (RowsSl.ext HR.out.2 HX.out)
        go_region_held3 (fun w' => w'.cell? ⟨w.heap.size, 0, none⟩ = some (.int .i64 va) ∧ w'.cell? ⟨w.heap.size, 1, none⟩ = some (.slice Aa na ca) ∧ w'.cell? ⟨w.heap.size + 1, 0, none⟩ = some (.int .i64 vb) ∧ w'.cell? ⟨w.heap.size + 1, 1, none⟩ = some (.slice Ab nb cb))
          (first | with_reducible assumption | (go_split_ands; refine ⟨?_, ?_, ?_, ?_⟩ <;> (repeat (first | with_reducible assumption | (refine Ext.cell ?_ (by assumption)) | with_reducible apply Ext.drew | with_reducible exact Ext.refl _))))
          (first
            | (go_at_call 26; (with_reducible refine (setsG_c va Aa na ca _).mono ?_); rintro e wa ⟨ga, rfl, hga, hxa⟩; have a0' := hxa.cell (by assumption : World.cell? _ ⟨w.heap.size, 0, none⟩ = _); have HGA := Lib.hid hga; clear hga)
            | (go_at_call 26; (with_reducible refine (setsG_c vb Ab nb cb _).mono ?_); rintro e wc ⟨gb, rfl, hgb, hxc⟩; have HGB := Lib.hid hgb; clear hgb)
            | (go_at_call 37; (with_reducible refine (collect_c ga va Aa na ca La _ hsa (HGA.out.ext ?_) (RowsSl.ext HRa.out ?_)).mono ?_); (repeat (first | with_reducible exact Ext.refl _ | with_reducible apply Ext.alloc | with_reducible apply Ext.drew | with_reducible apply Ext.drewN | (apply Ext.trans'; assumption))); (repeat (first | with_reducible exact Ext.refl _ | with_reducible apply Ext.alloc | with_reducible apply Ext.drew | with_reducible apply Ext.drewN | (apply Ext.trans'; assumption))); rintro e wb ⟨A1, n1, c1, rfl, hsl1, hxb⟩; have HS1 := Lib.hid hsl1; clear hsl1)
            | (go_at_call 37; (with_reducible refine (collect_c gb vb Ab nb cb Lb _ hsb (HGB.out.ext ?_) (RowsSl.ext HRb.out ?_)).mono ?_); (repeat (first | with_reducible exact Ext.refl _ | with_reducible apply Ext.alloc | with_reducible apply Ext.drew | with_reducible apply Ext.drewN | (apply Ext.trans'; assumption))); (repeat (first | with_reducible exact Ext.refl _ | with_reducible apply Ext.alloc | with_reducible apply Ext.drew | with_reducible apply Ext.drewN | (apply Ext.trans'; assumption))); rintro e wd ⟨A2, n2, c2, rfl, hsl2, hxd⟩; have HS2 := Lib.hid hsl2; clear hsl2)
            | (go_at_call 36; (with_reducible refine (equalN_c A1 n1 c1 (setsV va La) A2 n2 c2 (setsV vb Lb) _ (HS1.out.ext ?_) (HS2.out.ext ?_)).mono ?_); (repeat (first | with_reducible exact Ext.refl _ | with_reducible apply Ext.alloc | with_reducible apply Ext.drew | with_reducible apply Ext.drewN | (apply Ext.trans'; assumption))); (repeat (first | with_reducible exact Ext.refl _ | with_reducible apply Ext.alloc | with_reducible apply Ext.drew | with_reducible apply Ext.drewN | (apply Ext.trans'; assumption))); rintro e we ⟨rfl, hxe⟩))
        go_wp2
        go_ret2
        exact ⟨by rw [HE.out]; rfl, HX0.out.trans (HX.out.trans (by (repeat (first | with_reducible exact Ext.refl _ | with_reducible apply Ext.alloc | with_reducible apply Ext.drew | with_reducible apply Ext.drewN | (apply Ext.trans'; assumption)))))⟩
      · have hvb : (va != vb) = true := by simpa using hv
        have HE : Hid (bEqualV va La vb Lb = (false, 2)) := by unfold Hid bEqualV; rw [if_neg (by simpa using hc0), if_neg (by simpa using hc1), if_pos hv]
        clear hc0 hc1 hv
        go_wp2_with fail
        go_ret2
        exact ⟨by rw [HE.out]; rfl, HX0.out.trans HX.out⟩
end Go.Proofs.Ytdiapihfjmbgoaa
