/- UnitsEnd answers true. -/
import Derived.Test.YthkjcdkdfeckbaaLawUnitsFollowC
import Derived.Test.YthkjcdkdfeckbaaOwnRows
import Derived.Test.YthkjcdkdfeckbaaSubset
namespace Go.Proofs.Ythkjcdkdfeckbaa
open Go.RowKit

theorem most_rev {L : List (List Int)} {l : List Int} (h : few7V L l = true) : mostN L.reverse ≤ 10000 := by
  have h' := few7_bd h
  unfold few7V fewV at h
  simp only [Bool.and_eq_true, decide_eq_true_eq, List.all_eq_true] at h
  have := fewV_most (L := L.reverse) (fun c hc => h.1.1.2 c (List.mem_reverse.1 hc))
  rw [List.length_reverse] at this
  omega
theorem drop_rev {L : List (List Int)} {q : Nat} {x : List Int} (h : L[q]? = some x) : (L.drop (q + 1)).reverse ++ [x] = (L.drop q).reverse := by
  obtain ⟨hq, e⟩ := List.getElem?_eq_some_iff.1 h
  rw [List.drop_eq_getElem_cons hq, e, List.reverse_cons]
theorem sub_all {a b : List Int} (h : ∀ x, x ∈ a ↔ x ∈ b) : subV a b = true := by
  rw [subV, List.all_eq_true]
  intro x _
  unfold has2V
  have : hasV a x = hasV b x := by rw [Bool.eq_iff_iff, hasV_mem, hasV_mem]; exact h x
  rw [this]
  cases decide (varV x ≠ 0) <;> cases hasV b x <;> rfl

set_option maxRecDepth 100000 in
set_option maxHeartbeats 4000000 in
theorem lawUnitsEnd_c (A : Option Addr) (n c : Nat) (L : List (List Int)) (A' : Option Addr) (n' c' : Nat) (l : List Int) (w : World) (h : RowsSl w A n L) (h'c : IntSl w A' n' l ∧ n' ≤ c') :
    Calls Try.prog 5 #[.slice A n c, .slice A' n' c'] w fun e w' => e = .returned (.bool true) ∧ Ext w w' := by
  obtain ⟨h', hc'⟩ := h'c
  cases hf : few7V L l with
  | false =>
    go_enter Try.func5, Try.ntmps5
    go_wp2_with fail
    refine (few7_c _ _ _ L _ _ _ l _ h h').mono ?_
    rintro e w1 ⟨rfl, hx1⟩
    rw [hf]
    go_wp2_with fail
    refine (law07awake_c _).mono ?_
    rintro e w2 ⟨rfl, hx2⟩
    go_wp2_with fail
    go_ret
    exact ⟨rfl, hx1.trans hx2⟩
  | true =>
    obtain ⟨hM, hL, hl⟩ := few7_bd hf
    have hMr := most_rev hf
    have hLn := h.1
    have hn' := h'.1
    have hsm : n' ≤ 60 := by omega
    have hsn : n ≤ 60 := by omega
    by_cases ha : assignV l 100000 = 0
    · have hg := good_of ha
      have hord := prop_order (L := L) (M := L.reverse) (fun c => List.mem_reverse) hg
      have hendL : (pV L l).2.2 < 0 → _ := propV_end' L l
      have hfailL := propV_fail L (mostN L + 1) l []
      have hb1 : (pV L l).1.length ≤ 20000 := by have := propV_most L (mostN L + 1) l []; have := openN_most L l; have := openN_pos L (pV L l).1; unfold pV at *; omega
      have hb1r : (pV L.reverse l).1.length ≤ 20000 := by have := propV_most L.reverse (mostN L.reverse + 1) l []; have := openN_most L.reverse l; have := openN_pos L.reverse (pV L.reverse l).1; unfold pV at *; omega
      have hlen : (pV L l).1.length = l.length + (pV L l).2.1.length := propV_len L (mostN L + 1) l
      have hlenr : (pV L.reverse l).1.length = l.length + (pV L.reverse l).2.1.length := propV_len L.reverse (mostN L.reverse + 1) l
      have hbd1 := propV_bd L (mostN L + 1) l [] h'.2.2.1
      have hbd1r := propV_bd L.reverse (mostN L.reverse + 1) l [] h'.2.2.1
      have hbd2 : ∀ x ∈ (pV L l).2.1, -9223372036854775808 ≤ x ∧ x ≤ 9223372036854775807 := fun x hx => by have := propV_by L (mostN L + 1) l x hx; omega
      have hkb : -1 ≤ (pV L l).2.2 ∧ (pV L l).2.2 < (L.length : Int) := propV_k L (mostN L + 1) l []
      have HA := Lib.hid ha
      have HB1 := Lib.hid hbd1
      have HB1R := Lib.hid hbd1r
      have HB2 := Lib.hid hbd2
      have HORD := Lib.hid hord
      have HEND := Lib.hid hendL
      have HFAIL := Lib.hid hfailL
      have HLEN := Lib.hid hlen
      have HN' := Lib.hid hn'
      have HLN := Lib.hid hLn
      have HKB := Lib.hid hkb
      have HLB1 := Lib.hid hb1
      have HLB1R := Lib.hid hb1r
      clear hbd1 hbd2 hbd1r hn' hL hl hlen hLn hkb ha hg hord hendL hfailL hb1 hb1r hlenr
      go_enter Try.func5, Try.ntmps5
      go_wp2_with fail
      refine (few7_c _ _ _ L _ _ _ l _ h h').mono ?_
      rintro e w1 ⟨rfl, hx1⟩
      rw [hf]
      go_wp2_with fail
      refine (rACheck_c _ _ _ l 100000 _ (h'.ext hx1) hc' (by decide) (by decide)).mono ?_
      rintro e w2 ⟨rfl, hx2⟩
      rw [HA.out]
      have HX := Lib.hid (hx1.trans hx2)
      clear hx1 hx2
      go_wp2_with fail
      go_loopw [5, 6] (fun v i wr => ∃ (j : Nat) (y : Int), i = .int .i64 y ∧ y = j - 1 ∧ j ≤ n ∧ OwnR w2 wr w2.heap.size v ((L.drop j).reverse) ∧ Ext w2 wr) (fun _ i _ => (intOf i + 1).toNat)
      case atStart => exact ⟨n, _, rfl, rfl, Nat.le_refl _, by rw [List.drop_of_length_le (by have := HLN.out; omega)]; exact OwnR.nil _ _ _, Ext.refl _⟩
      case round =>
        obtain ⟨j, y, rfl, hy, hj, ho, hx⟩ := hrel
        have HO := Lib.hid ho
        have HXR := Lib.hid hx
        have hsz := hx.size_le
        clear ho hx
        rcases Nat.eq_zero_or_pos j with h0 | h0
        · subst h0
          obtain rfl : y = -1 := by omega
          have hor := HO.out
          rw [List.drop_zero] at hor
          obtain ⟨Ab, nb, cb, rfl, hback, _⟩ := hor.sl HXR.out (by have := HLN.out; simp; omega)
          have HBACK := Lib.hid hback
          have HXW := Lib.hid (HX.out.trans HXR.out)
          clear hor hback hy HO hsz
          go_wp2_with fail
          refine (prop_c _ _ _ L _ _ _ l _ (h.ext HXW.out) (h'.ext HXW.out) (by omega) (by omega)).mono ?_
          rintro e w4 ⟨v, u, k, rfl, hv, hu, hk, hx4⟩
          obtain ⟨Av, nv, cv, rfl, hsv⟩ := hv.sl (by show (pV L l).1.length ≤ _; have := HLB1.out; omega) HB1.out
          obtain ⟨Au, nu, cu, rfl, hsu⟩ := hu.sl (by show (pV L l).2.1.length ≤ _; have := HLEN.out; have := HLB1.out; omega) HB2.out
          clear hv hu
          have hnv : (pV L l).1.length = nv := hsv.1
          have hnu : (pV L l).2.1.length = nu := hsu.1
          have hsum : nv = n' + nu := by have := HLEN.out; have := HN'.out; omega
          have hk' : k = (pV L l).2.2 := hk
          have hkn : k < (n : Int) := by have := HKB.out; have := HLN.out; omega
          have hkn1 : -1 ≤ k := by have := HKB.out; omega
          have hnb : nu ≤ 20000 := by have := HLB1.out; omega
          have HK := Lib.hid hk'
          have HSV := Lib.hid hsv
          have HX4 := Lib.hid (HXW.out.trans hx4)
          have HB4 := Lib.hid (HBACK.out.ext hx4)
          have hne : ((nu : Int) != (nv : Int) - (n' : Int)) = false := by simp; omega
          have hnvb : nv ≤ 30000 := by omega
          have HNV := Lib.hid hnv
          have HSUM := Lib.hid hsum
          clear hk hk' hnu hsv hsu hx4 hnv HBACK HXW hsum
          go_wp2_with fail
          refine (prop_c _ _ _ L.reverse _ _ _ l _ HB4.out (h'.ext HX4.out) (by omega) (by omega)).mono ?_
          rintro e w5 ⟨v2, u2, k2, rfl, hv, hu, hk, hx5⟩
          obtain ⟨Av2, nv2, cv2, rfl, hsv2⟩ := hv.sl (by show (pV L.reverse l).1.length ≤ _; have := HLB1R.out; omega) HB1R.out
          clear hv hu
          have hk2 : k2 = (pV L.reverse l).2.2 := hk
          have hnv2 : (pV L.reverse l).1.length = nv2 := hsv2.1
          have hord := HORD.out
          rw [← hk2, ← HK.out] at hord
          obtain ⟨ho1, ho2⟩ := hord
          have HX5 := Lib.hid (HX4.out.trans hx5)
          have HSV5 := Lib.hid (HSV.out.ext hx5)
          have HSV2 := Lib.hid hsv2
          have HNV2 := Lib.hid hnv2
          clear hk hk2 hx5 hsv2 hnv2 HSV HB4 HX4
          by_cases hkn0 : k < 0
          · have hk20 : k2 < 0 := ho1.1 hkn0
            obtain ⟨hmem, hlen2⟩ := ho2 hkn0
            have hends : failsV (pV L l).1 L < 0 ∧ nextU (pV L l).1 L < 0 := HEND.out (by rw [← HK.out]; exact hkn0)
            have hcl : (decide (failsV (pV L l).1 L < 0) && decide (nextU (pV L l).1 L < 0)) = true := by rw [decide_eq_true hends.1, decide_eq_true hends.2]; rfl
            have hsub : subV (pV L l).1 (pV L.reverse l).1 = true := sub_all hmem
            have hlen3 : nv2 = nv := by have := HNV.out; have := HNV2.out; omega
            have HCL := Lib.hid hcl
            have HSUB := Lib.hid hsub
            clear ho1 ho2 hmem hlen2 hends hcl hsub
            subst hlen3
            go_wp2_with fail
            refine (closed_c _ _ _ L _ _ _ (pV L l).1 _ (h.ext HX5.out) HSV5.out (by omega)).mono ?_
            rintro e w6 ⟨rfl, hx6⟩
            rw [HCL.out]
            go_wp2_with fail
            refine (subset_c _ _ _ (pV L l).1 _ _ _ (pV L.reverse l).1 _ (HSV5.out.ext hx6) (HSV2.out.ext hx6)).mono ?_
            rintro e w' ⟨rfl, rfl⟩
            rw [HSUB.out]
            go_wp2_with fail
            refine (law07awake_c _).mono ?_
            rintro e w7 ⟨rfl, hx7⟩
            go_wp2_with fail
            go_ret
            exact ⟨rfl, HX5.out.trans (hx6.trans hx7)⟩
          · have hk20 : ¬ k2 < 0 := fun hh => hkn0 (ho1.2 hh)
            obtain ⟨q, rfl⟩ := Int.eq_ofNat_of_zero_le (show 0 ≤ k by omega)
            have hqn : q < n := by omega
            obtain ⟨ad, xs, A1, n1, c1, rfl, hx, hcx, hrow⟩ := (h.ext HX5.out).at_ hqn
            have hcv : clauseV (pV L l).1 xs = -1 := by
              have h1 := HFAIL.out (by show 0 ≤ (pV L l).2.2; rw [← HK.out]; omega)
              have h2 : failsV (pV L l).1 L = (q : Int) := by rw [HK.out]; exact h1
              obtain ⟨cc, _, hp, kk, hkk, hcc⟩ := fails_mem (l := (pV L l).1) (L := L) (by omega)
              have : kk = q := by omega
              subst this
              have e : cc = xs := Option.some.inj (hcc.symm.trans hx.out)
              subst e
              simpa [failP] using hp
            have HCV := Lib.hid hcv
            clear ho1 ho2 hcv
            go_wp2_with fail
            refine (rClause_c _ _ _ (pV L l).1 _ _ _ xs _ HSV5.out hrow).mono ?_
            rintro e w' ⟨rfl, rfl⟩
            rw [HCV.out]
            go_wp2_with fail
            refine (law07awake_c _).mono ?_
            rintro e w7 ⟨rfl, hx7⟩
            go_wp2_with fail
            go_ret
            exact ⟨rfl, HX5.out.trans hx7⟩
        · obtain ⟨q, rfl⟩ : ∃ q, j = q + 1 := ⟨j - 1, by omega⟩
          obtain rfl : y = (q : Int) := by omega
          clear hy h0
          have hq : q < n := by omega
          obtain ⟨ad, xs, A1, n1, c1, rfl, hx, hcx, hrow⟩ := (h.ext (HX.out.trans HXR.out)).at_ hq
          have hrow2 : IntSl w2 A1 n1 xs := by
            obtain ⟨ad', xs', A1', n1', c1', e1, hx', hcx', hrow'⟩ := (h.ext HX.out).at_ hq
            cases e1
            have e2 := HXR.out.cell hcx'
            rw [hcx] at e2
            cases e2
            have e3 := hx.out.symm.trans hx'.out
            cases e3
            exact hrow'
          have HROW := Lib.hid hrow2
          have hol : (L.drop (q + 1)).reverse.length + 1 ≤ 1000000000000 := by have := HLN.out; simp; omega
          have HOL := Lib.hid hol
          clear hrow2 hrow hol
          go_wp2_with (at_builtin; refine appendR1 w2 _ rfl _ _ rfl w2.heap.size _ _ rfl (HO.out.alloc _) _ _ _ _ _ xs rfl (cell_one _ _ _) HROW.out HOL.out (by simp; omega) ?_; intro v' w3 ho3 hg3 _; have HO3 := Lib.hid ho3; have HG3 := Lib.hid hg3; clear ho3 hg3)
          go_roundw
          case rel =>
            refine ⟨q, _, rfl, by omega, by omega, ?_, Below.grown (HXR.out.alloc _) HG3.out (by simp; omega) (fun j hj => (HO.out.blk j hj).1)⟩
            rw [← drop_rev hx.out]; exact HO3.out
          case measure => simp [intOf]
    · have hab : (assignV l 100000 != 0) = true := by simpa using ha
      have HA := Lib.hid ha
      clear hn' hL hl hLn hMr ha
      go_enter Try.func5, Try.ntmps5
      go_wp2_with fail
      refine (few7_c _ _ _ L _ _ _ l _ h h').mono ?_
      rintro e w1 ⟨rfl, hx1⟩
      rw [hf]
      go_wp2_with fail
      refine (rACheck_c _ _ _ l 100000 _ (h'.ext hx1) hc' (by decide) (by decide)).mono ?_
      rintro e w2 ⟨rfl, hx2⟩
      go_wp2_with fail
      refine (law07awake_c _).mono ?_
      rintro e w3 ⟨rfl, hx3⟩
      go_wp2_with fail
      go_ret
      exact ⟨rfl, hx1.trans (hx2.trans hx3)⟩
end Go.Proofs.Ythkjcdkdfeckbaa
