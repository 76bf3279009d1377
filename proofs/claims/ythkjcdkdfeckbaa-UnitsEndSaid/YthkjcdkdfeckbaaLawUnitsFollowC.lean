/- UnitsFollow answers true. -/
import Derived.Test.YthkjcdkdfeckbaaLawUnitsTellC
import Derived.Test.YthkjcdkdfeckbaaFirst
namespace Go.Proofs.Ythkjcdkdfeckbaa
open Go.RowKit

def allB (l : List Int) (m : List Bool) : Bool := l.all fun x => decide (indexV x < 0) || litHolds m x
theorem allB_iff {l : List Int} {m : List Bool} : allB l m = true ↔ AllH l m := by
  unfold allB AllH
  rw [List.all_eq_true]
  constructor
  · intro h x hx hv
    have h1 := h x hx
    have h2 := (varV_index x).2 hv
    rw [decide_eq_false (by omega), Bool.false_or] at h1
    exact h1
  · intro h x hx
    by_cases hv : varV x = 0
    · have : ¬ 0 ≤ indexV x := fun e => (varV_index x).1 e hv
      rw [decide_eq_true (by omega)]; rfl
    · rw [h x hx hv, Bool.or_true]
theorem refutes_sound {L : List (List Int)} {c : List Int} {m : List Bool} (hL : HoldL L m) (h : refutesV L c = true) : holdsV c m = true := by
  cases hc : holdsV c m with
  | true => rfl
  | false =>
    unfold refutesV at h
    cases ht : tautV c with
    | true => rw [taut_holds m ht] at hc; cases hc
    | false =>
      rw [ht, Bool.false_or, decide_eq_true_eq] at h
      have := (prop_sound hL (opps_all hc) (mostN L + 1)).2
      omega
theorem out_holds {L : List (List Int)} {l : List Int} {m : List Bool} (hL : HoldL L m) (hl : AllH l m) (k : Nat) (j : Nat) (x : Int) (hj : l.length ≤ j) (hx : (propV L k l []).1[j]? = some x) : litHolds m x = true := by
  have h1 := (prop_sound hL hl k).1
  have h2 := propV_ind L (fun y _ => ∃ t : List Int, y = l ++ t ∧ ∀ x ∈ t, varV x ≠ 0) (fun y z _ hn ⟨t, ht, hv⟩ => by
    obtain ⟨c, _, hu, hs⟩ := next_mem hn
    refine ⟨t ++ [nextS y L], by rw [ht, List.append_assoc], fun x hx => ?_⟩
    rcases List.mem_append.1 hx with hx | hx
    · exact hv x hx
    · rw [List.mem_singleton.1 hx, hs]; exact (unit_lits hu).2.1) k l [] ⟨[], by simp, by simp⟩
  obtain ⟨t, ht, hv⟩ := h2
  refine h1 x (List.mem_of_getElem? hx) (hv x ?_)
  rw [ht, List.getElem?_append_right hj] at hx
  exact List.mem_of_getElem? hx

set_option maxHeartbeats 4000000 in
theorem lawUnitsFollow_c (A : Option Addr) (n c : Nat) (L : List (List Int)) (A' : Option Addr) (n' c' : Nat) (l : List Int) (A2 : Option Addr) (n2 c2 : Nat) (m : List Bool) (w : World) (h : RowsSl w A n L) (h'c : IntSl w A' n' l ∧ n' ≤ c') (h2 : BoolSl w A2 n2 m) :
    Calls Try.prog 4 #[.slice A n c, .slice A' n' c', .slice A2 n2 c2] w fun e w' => e = .returned (.bool true) ∧ Ext w w' := by
  obtain ⟨h', hc'⟩ := h'c
  cases hf : few7V L l with
  | false =>
    go_enter Try.func4, Try.ntmps4
    go_wp2_with fail
    refine (few7_c _ _ _ L _ _ _ l _ h h').mono ?_
    rintro e w1 ⟨rfl, hx1⟩
    rw [hf]
    go_wp2_with fail
    refine (law07awake_c _).mono ?_
    rintro e w2 ⟨rfl, hx2⟩
    go_wp2_with fail
    go_ret
    exact ⟨rfl, hx1.trans hx2⟩
  | true =>
    obtain ⟨hM, hL, hl⟩ := few7_bd hf
    have hLn := h.1
    have hn' := h'.1
    have hsm : n' ≤ 60 := by omega
    have hsn : n ≤ 60 := by omega
    by_cases h200 : 200 < n2
    · clear hn' hL hl hLn
      go_enter Try.func4, Try.ntmps4
      go_wp2_with fail
      refine (few7_c _ _ _ L _ _ _ l _ h h').mono ?_
      rintro e w1 ⟨rfl, hx1⟩
      rw [hf]
      go_wp2_with fail
      refine (law07awake_c _).mono ?_
      rintro e w2 ⟨rfl, hx2⟩
      go_wp2_with fail
      go_ret
      exact ⟨rfl, hx1.trans hx2⟩
    · have hb1 : (pV L l).1.length ≤ 20000 := by have := propV_most L (mostN L + 1) l []; have := openN_most L l; have := openN_pos L (pV L l).1; unfold pV at *; omega
      have hlen : (pV L l).1.length = l.length + (pV L l).2.1.length := propV_len L (mostN L + 1) l
      have hbd1 := propV_bd L (mostN L + 1) l [] h'.2.2.1
      have hbd2 : ∀ x ∈ (pV L l).2.1, -9223372036854775808 ≤ x ∧ x ≤ 9223372036854775807 := fun x hx => by have := propV_by L (mostN L + 1) l x hx; omega
      have HB1 := Lib.hid hbd1
      have HB2 := Lib.hid hbd2
      have hkb : -1 ≤ (pV L l).2.2 ∧ (pV L l).2.2 < (L.length : Int) := propV_k L (mostN L + 1) l []
      have HLEN := Lib.hid hlen
      have HN' := Lib.hid hn'
      have HLN := Lib.hid hLn
      have HKB := Lib.hid hkb
      clear hbd1 hbd2 hn' hL hl hlen hLn hkb
      go_enter Try.func4, Try.ntmps4
      go_wp2_with fail
      refine (few7_c _ _ _ L _ _ _ l _ h h').mono ?_
      rintro e w1 ⟨rfl, hx1⟩
      rw [hf]
      go_wp2_with fail
      refine (prop_c _ _ _ L _ _ _ l _ (h.ext hx1) (h'.ext hx1) (by omega) (by omega)).mono ?_
      rintro e w2 ⟨v, u, k, rfl, hv, hu, hk, hx2⟩
      obtain ⟨Av, nv, cv, rfl, hsv, hcv⟩ := hv.slc (by show (pV L l).1.length ≤ _; omega) HB1.out
      obtain ⟨Au, nu, cu, rfl, hsu⟩ := hu.sl (by show (pV L l).2.1.length ≤ _; have := HLEN.out; omega) HB2.out
      clear hv hu
      have hnv : (pV L l).1.length = nv := hsv.1
      have hnu : (pV L l).2.1.length = nu := hsu.1
      have hsum : nv = n' + nu := by have := HLEN.out; have := HN'.out; omega
      have hkn : k < (n : Int) := by have := HKB.out; have := HLN.out; have e : k = (pV L l).2.2 := hk; omega
      have hkn1 : -1 ≤ k := by have := HKB.out; have e : k = (pV L l).2.2 := hk; omega
      have hnb : nu ≤ 20000 := by omega
      have HK := Lib.hid hk
      have HSV := Lib.hid hsv
      have hX := hx1.trans hx2
      have HX := Lib.hid hX
      subst hsum
      have hne : (((n' + nu : Nat) : Int) != (n' : Int) + (nu : Int)) = false := by simp
      clear hk hnv hnu hsv hsu hx1 hx2 hX hb1
      go_wp2_with fail
      refine (rFirst_c _ _ _ _ L _ _ _ m _ (h.ext HX.out) (h2.ext HX.out)).mono ?_
      rintro e w3 ⟨rfl, hx3⟩
      have HX3 := Lib.hid (HX.out.trans hx3)
      have HSV3 := Lib.hid (HSV.out.ext hx3)
      clear hx3 HSV HX
      by_cases hfirst : firstV L m < 0
      · have hHL : HoldL L m := firstV_neg.1 hfirst
        have HH := Lib.hid hHL
        clear hHL
        go_wp2_with fail
        refine (refutes_c _ _ _ L _ _ _ l _ (h.ext HX3.out) (h'.ext HX3.out) (by omega) (by omega)).mono ?_
        rintro e w4 ⟨rfl, hx4⟩
        have HX4 := Lib.hid (HX3.out.trans hx4)
        have HSV4 := Lib.hid (HSV3.out.ext hx4)
        clear hx4 HSV3 HX3
        have hrs := fun hr => refutes_sound (c := l) HH.out hr
        have HRS := Lib.hid hrs
        clear hrs
        cases hr : refutesV L l
        all_goals
          go_wp2_with (go_at_call 22; (with_reducible refine (rHolds_c _ _ _ l _ _ _ m _ (h'.ext HX4.out) (h2.ext HX4.out)).mono ?_); rintro e w' ⟨rfl, rfl⟩; rw [HRS.out hr])
          clear hr HRS
          go_loop [10, 11] (fun a i => ∃ (k : Nat) (b : Bool), k ≤ n' ∧ i = .int .i64 k ∧ a = .bool b ∧ b = allB (l.take k) m) (fun _ i => n' - (intOf i).toNat)
          case atStart => exact ⟨0, true, Nat.zero_le _, rfl, rfl, rfl⟩
          case round =>
            obtain ⟨j, b, hj, rfl, rfl, hb⟩ := hrel
            have HB := Lib.hid hb
            clear hb
            by_cases hlt : j < n'
            · obtain ⟨ad, x, rfl, hx, hcx, hxa, hxb⟩ := (h'.ext HX4.out).at_ hlt
              have HT := Lib.hid (take_succ_of hx.out)
              have HS : Hid (allB (l.take (j + 1)) m = (b && (decide (indexV x < 0) || litHolds m x))) := by
                unfold Hid; rw [HT.out, HB.out, allB, allB, List.all_append]; simp
              have hone := IntSl.one (h'.ext HX4.out) hx.out
              have hjc : j + 1 ≤ c' := by omega
              cases b with
              | false =>
                go_wp2
                go_round
                case rel => exact ⟨j + 1, _, by omega, by go_num, rfl, by rw [HS.out]; rfl⟩
                case measure => simp [intOf]; omega
              | true =>
                by_cases hi : indexV x < 0
                · go_wp2_with (go_at_call 23; refine (rIndex_c _ _).mono ?_; rintro e w' ⟨rfl, rfl⟩)
                  go_round
                  case rel => exact ⟨j + 1, _, by omega, by go_num, rfl, by rw [HS.out, decide_eq_true hi]; rfl⟩
                  case measure => simp [intOf]; omega
                · go_wp2_with (first
                    | (go_at_call 23; refine (rIndex_c _ _).mono ?_; rintro e w' ⟨rfl, rfl⟩)
                    | (go_at_call 22; (with_reducible refine (rHolds_c _ _ _ [x] _ _ _ m _ hone (h2.ext HX4.out)).mono ?_); rintro e w' ⟨rfl, rfl⟩; rw [holdsV_one]))
                  go_round
                  case rel => exact ⟨j + 1, _, by omega, by go_num, rfl, by rw [HS.out, decide_eq_false (show ¬ indexV x < 0 by omega)]; rfl⟩
                  case measure => simp [intOf]; omega
            · have hbb := HB.out
              rw [take_len_of h'.1 hlt] at hbb
              have HBB := Lib.hid hbb
              clear hbb
              cases b with
              | false =>
                go_wp2
                go_loop [12] (fun i => ∃ q : Nat, n' ≤ q ∧ q ≤ n' + nu ∧ i = .int .i64 q) (fun i => n' + nu - (intOf i).toNat)
                case atStart => exact ⟨n', by omega, by omega, rfl⟩
                case round =>
                  obtain ⟨q, hq1, hq2, rfl⟩ := hrel
                  by_cases hq : q < n' + nu
                  all_goals
                    go_wp2_with (go_at_call 11; refine (law07awake_c _).mono ?_; rintro e w5 ⟨rfl, hx5⟩)
                    go_ret
                    exact ⟨rfl, HX4.out.trans hx5⟩
              | true =>
                have hall := allB_iff.1 HBB.out.symm
                have hk0 : k < 0 := by have := (prop_sound HH.out hall (mostN L + 1)).2; have e := HK.out; omega
                have HOUT := Lib.hid (fun q x a b => out_holds HH.out hall (mostN L + 1) q x a b)
                clear hall
                go_wp2
                go_loop [12] (fun i => ∃ q : Nat, n' ≤ q ∧ q ≤ n' + nu ∧ i = .int .i64 q) (fun i => n' + nu - (intOf i).toNat)
                case atStart => exact ⟨n', by omega, by omega, rfl⟩
                case round =>
                  obtain ⟨q, hq1, hq2, rfl⟩ := hrel
                  by_cases hq : q < n' + nu
                  · obtain ⟨ad, x, rfl, hx, hcx, hxa, hxb⟩ := HSV4.out.at_ hq
                    have hone := IntSl.one HSV4.out hx.out
                    have hlit := HOUT.out q x (by rw [HN'.out]; exact hq1) hx.out
                    have hqc : q + 1 ≤ cv := by omega
                    go_wp2_with (go_at_call 22; (with_reducible refine (rHolds_c _ _ _ [x] _ _ _ m _ hone (h2.ext HX4.out)).mono ?_); rintro e w' ⟨rfl, rfl⟩; rw [holdsV_one, hlit])
                    go_round
                    case rel => exact ⟨q + 1, by omega, by omega, by go_num⟩
                    case measure => simp [intOf]; omega
                  · go_wp2_with (go_at_call 11; refine (law07awake_c _).mono ?_; rintro e w5 ⟨rfl, hx5⟩)
                    go_ret
                    exact ⟨rfl, HX4.out.trans hx5⟩
      · go_wp2_with fail
        refine (law07awake_c _).mono ?_
        rintro e w4 ⟨rfl, hx4⟩
        go_wp2_with fail
        go_ret
        exact ⟨rfl, HX3.out.trans hx4⟩
end Go.Proofs.Ythkjcdkdfeckbaa
