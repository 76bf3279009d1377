/- UnitsTell answers true. -/
import Derived.Test.YthkjcdkdfeckbaaUnitsAwake
import Derived.Test.YthkjcdkdfeckbaaFew
import Derived.Test.YthkjcdkdfeckbaaProp2
namespace Go.Proofs.Ythkjcdkdfeckbaa
open Go.RowKit

theorem few7_bd {L : List (List Int)} {l : List Int} (h : few7V L l = true) : mostN L ≤ 10000 ∧ L.length ≤ 60 ∧ l.length ≤ 60 := by
  unfold few7V fewV at h
  simp only [Bool.and_eq_true, decide_eq_true_eq, List.all_eq_true] at h
  have := fewV_most (L := L) (fun c hc => h.1.1.2 c hc)
  omega

set_option maxHeartbeats 4000000 in
theorem lawUnitsTell_c (A : Option Addr) (n c : Nat) (L : List (List Int)) (A' : Option Addr) (n' c' : Nat) (l : List Int) (A2 : Option Addr) (n2 c2 : Nat) (cl : List Int) (w : World) (h : RowsSl w A n L) (h' : IntSl w A' n' l) (h2 : IntSl w A2 n2 cl) :
    Calls Try.prog 3 #[.slice A n c, .slice A' n' c', .slice A2 n2 c2] w fun e w' => e = .returned (.bool true) ∧ Ext w w' := by
  cases hf : few7V L l with
  | false =>
    go_enter Try.func3, Try.ntmps3
    go_wp2_with fail
    refine (few7_c _ _ _ L _ _ _ l _ h h').mono ?_
    rintro e w1 ⟨rfl, hx1⟩
    rw [hf]
    go_wp2_with fail
    refine (law07awake_c _).mono ?_
    rintro e w2 ⟨rfl, hx2⟩
    go_wp2_with fail
    go_ret
    exact ⟨rfl, hx1.trans hx2⟩
  | true =>
    obtain ⟨hM, hL, hl⟩ := few7_bd hf
    have hn' := h'.1
    have hsm : n' ≤ 60 := by omega
    by_cases h60 : 60 < n2
    · clear hn' hL hl
      go_enter Try.func3, Try.ntmps3
      go_wp2_with fail
      refine (few7_c _ _ _ L _ _ _ l _ h h').mono ?_
      rintro e w1 ⟨rfl, hx1⟩
      rw [hf]
      go_wp2_with fail
      refine (law07awake_c _).mono ?_
      rintro e w2 ⟨rfl, hx2⟩
      go_wp2_with fail
      go_ret
      exact ⟨rfl, hx1.trans hx2⟩
    · have hb1 : (pV L l).1.length ≤ 20000 := by have := propV_most L (mostN L + 1) l []; have := openN_most L l; have := openN_pos L (pV L l).1; unfold pV at *; omega
      have hb2 : (pV L l).2.1.length ≤ 20000 := by have := propV_len L (mostN L + 1) l; unfold pV at *; omega
      have hbd1 := propV_bd L (mostN L + 1) l [] h'.2.2.1
      have hbd2 : ∀ x ∈ (pV L l).2.1, -9223372036854775808 ≤ x ∧ x ≤ 9223372036854775807 := fun x hx => by have := propV_by L (mostN L + 1) l x hx; omega
      have HB1 := Lib.hid hbd1
      have HB2 := Lib.hid hbd2
      have hse : ∀ xs : List Int, sameV xs xs = true := fun xs => by simp [sameV]
      clear hbd1 hbd2 hn' hL hl
      go_enter Try.func3, Try.ntmps3
      go_wp2_with fail
      refine (few7_c _ _ _ L _ _ _ l _ h h').mono ?_
      rintro e w1 ⟨rfl, hx1⟩
      rw [hf]
      go_wp2_with fail
      refine (next_c _ _ _ L _ _ _ l _ (h.ext ?_) (h'.ext ?_) (by omega)).mono ?_
      · (repeat (first | with_reducible exact Ext.refl _ | with_reducible apply Ext.alloc | with_reducible apply Ext.drew | with_reducible apply Ext.drewN | (apply Ext.trans'; assumption)))
      · (repeat (first | with_reducible exact Ext.refl _ | with_reducible apply Ext.alloc | with_reducible apply Ext.drew | with_reducible apply Ext.drewN | (apply Ext.trans'; assumption)))
      rintro e w2 ⟨x, i, t, rfl, hx, hi, ht, hx2⟩
      have HX := Lib.hid hx
      have HI := Lib.hid hi
      have HT := Lib.hid ht
      clear hx hi ht
      go_wp2_with fail
      refine (rNext_c _ _ _ L _ _ _ l _ (h.ext ?_) (h'.ext ?_)).mono ?_
      · (repeat (first | with_reducible exact Ext.refl _ | with_reducible apply Ext.alloc | with_reducible apply Ext.drew | with_reducible apply Ext.drewN | (apply Ext.trans'; assumption)))
      · (repeat (first | with_reducible exact Ext.refl _ | with_reducible apply Ext.alloc | with_reducible apply Ext.drew | with_reducible apply Ext.drewN | (apply Ext.trans'; assumption)))
      rintro e w3 ⟨y, j, s, rfl, hy, hj, hs, hx3⟩
      obtain rfl : x = y := HX.out.trans hy.symm
      obtain rfl : i = j := HI.out.trans hj.symm
      obtain rfl : t = s := HT.out.trans hs.symm
      clear hy hj hs
      go_wp2_with fail
      refine (prop_c _ _ _ L _ _ _ l _ (h.ext ?_) (h'.ext ?_) (by omega) (by omega)).mono ?_
      · (repeat (first | with_reducible exact Ext.refl _ | with_reducible apply Ext.alloc | with_reducible apply Ext.drew | with_reducible apply Ext.drewN | (apply Ext.trans'; assumption)))
      · (repeat (first | with_reducible exact Ext.refl _ | with_reducible apply Ext.alloc | with_reducible apply Ext.drew | with_reducible apply Ext.drewN | (apply Ext.trans'; assumption)))
      rintro e w4 ⟨v, u, k, rfl, hv, hu, hk, hx4⟩
      obtain ⟨Av, nv, cv, rfl, hsv⟩ := hv.sl (by show (pV L l).1.length ≤ _; omega) HB1.out
      obtain ⟨Au, nu, cu, rfl, hsu⟩ := hu.sl (by show (pV L l).2.1.length ≤ _; omega) HB2.out
      clear hv hu
      have HK := Lib.hid hk
      clear hk
      go_wp2_with fail
      refine (rProp_c _ _ _ L _ _ _ l _ (h.ext ?_) (h'.ext ?_) (by omega) (by omega)).mono ?_
      · (repeat (first | with_reducible exact Ext.refl _ | with_reducible apply Ext.alloc | with_reducible apply Ext.drew | with_reducible apply Ext.drewN | (apply Ext.trans'; assumption)))
      · (repeat (first | with_reducible exact Ext.refl _ | with_reducible apply Ext.alloc | with_reducible apply Ext.drew | with_reducible apply Ext.drewN | (apply Ext.trans'; assumption)))
      rintro e w5 ⟨v', u', k', rfl, hv, hu, hk, hx5⟩
      obtain ⟨Av', nv', cv', rfl, hsv'⟩ := hv.sl (by show (pV L l).1.length ≤ _; omega) HB1.out
      obtain ⟨Au', nu', cu', rfl, hsu'⟩ := hu.sl (by show (pV L l).2.1.length ≤ _; omega) HB2.out
      obtain rfl : k' = k := hk.trans HK.out.symm
      clear hv hu hk hb1 hb2
      go_wp2_with fail
      refine (same_c _ _ _ _ _ _ _ _ _ (hsv.ext ?_) hsv').mono ?_
      · (repeat (first | with_reducible exact Ext.refl _ | with_reducible apply Ext.alloc | with_reducible apply Ext.drew | with_reducible apply Ext.drewN | (apply Ext.trans'; assumption)))
      rintro e w6 ⟨rfl, hx6⟩
      rw [hse]
      go_wp2_with fail
      refine (same_c _ _ _ _ _ _ _ _ _ (hsu.ext ?_) (hsu'.ext ?_)).mono ?_
      · (repeat (first | with_reducible exact Ext.refl _ | with_reducible apply Ext.alloc | with_reducible apply Ext.drew | with_reducible apply Ext.drewN | (apply Ext.trans'; assumption)))
      · (repeat (first | with_reducible exact Ext.refl _ | with_reducible apply Ext.alloc | with_reducible apply Ext.drew | with_reducible apply Ext.drewN | (apply Ext.trans'; assumption)))
      rintro e w7 ⟨rfl, hx7⟩
      rw [hse]
      clear hse hsu hsu' hsv hsv'
      go_wp2_with fail
      refine (closed_c _ _ _ L _ _ _ l _ (h.ext ?_) (h'.ext ?_) (by omega)).mono ?_
      · (repeat (first | with_reducible exact Ext.refl _ | with_reducible apply Ext.alloc | with_reducible apply Ext.drew | with_reducible apply Ext.drewN | (apply Ext.trans'; assumption)))
      · (repeat (first | with_reducible exact Ext.refl _ | with_reducible apply Ext.alloc | with_reducible apply Ext.drew | with_reducible apply Ext.drewN | (apply Ext.trans'; assumption)))
      rintro e w8 ⟨rfl, hx8⟩
      go_wp2_with fail
      refine (rClosed_c _ _ _ L _ _ _ l _ (h.ext ?_) (h'.ext ?_)).mono ?_
      · (repeat (first | with_reducible exact Ext.refl _ | with_reducible apply Ext.alloc | with_reducible apply Ext.drew | with_reducible apply Ext.drewN | (apply Ext.trans'; assumption)))
      · (repeat (first | with_reducible exact Ext.refl _ | with_reducible apply Ext.alloc | with_reducible apply Ext.drew | with_reducible apply Ext.drewN | (apply Ext.trans'; assumption)))
      rintro e w9 ⟨rfl, hx9⟩
      go_wp2_with fail
      refine (refutes_c _ _ _ L _ _ _ cl _ (h.ext ?_) (h2.ext ?_) (by omega) (by omega)).mono ?_
      · (repeat (first | with_reducible exact Ext.refl _ | with_reducible apply Ext.alloc | with_reducible apply Ext.drew | with_reducible apply Ext.drewN | (apply Ext.trans'; assumption)))
      · (repeat (first | with_reducible exact Ext.refl _ | with_reducible apply Ext.alloc | with_reducible apply Ext.drew | with_reducible apply Ext.drewN | (apply Ext.trans'; assumption)))
      rintro e w10 ⟨rfl, hx10⟩
      go_wp2_with fail
      refine (rRefutes_c _ _ _ L _ _ _ cl _ (h.ext ?_) (h2.ext ?_) (by omega) (by omega)).mono ?_
      · (repeat (first | with_reducible exact Ext.refl _ | with_reducible apply Ext.alloc | with_reducible apply Ext.drew | with_reducible apply Ext.drewN | (apply Ext.trans'; assumption)))
      · (repeat (first | with_reducible exact Ext.refl _ | with_reducible apply Ext.alloc | with_reducible apply Ext.drew | with_reducible apply Ext.drewN | (apply Ext.trans'; assumption)))
      rintro e w11 ⟨rfl, hx11⟩
      go_wp2_with fail
      refine (law07awake_c _).mono ?_
      rintro e w12 ⟨rfl, hx12⟩
      go_wp2_with fail
      go_ret
      exact ⟨rfl, by (repeat (first | with_reducible exact Ext.refl _ | with_reducible apply Ext.alloc | with_reducible apply Ext.drew | with_reducible apply Ext.drewN | (apply Ext.trans'; assumption)))⟩
end Go.Proofs.Ythkjcdkdfeckbaa
