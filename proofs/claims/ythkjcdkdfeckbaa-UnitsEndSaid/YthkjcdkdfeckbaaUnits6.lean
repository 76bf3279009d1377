/- Layer 7 (units): Refutes. -/
import Derived.Test.YthkjcdkdfeckbaaUnits5
import Derived.Test.YthkjcdkdfeckbaaTaut2
namespace Go.Proofs.Ythkjcdkdfeckbaa
open Go.RowKit Go.Maps

def refutesV (L : List (List Int)) (c : List Int) : Bool := tautV c || decide (0 ≤ (propV L (mostN L + 1) (oppsV c) []).2.2)
theorem negV_zero (x : Int) : (varV x = 0 ∧ negV x = 0) ∨ (varV x ≠ 0 ∧ negV x = -x ∧ negV x ≠ 0) := by
  unfold varV negV; (repeat (first | omega | split))

set_option maxHeartbeats 1000000 in
theorem rRefutes_c (A : Option Addr) (n c : Nat) (L : List (List Int)) (A' : Option Addr) (n' c' : Nat) (xs : List Int) (w : World) (h : RowsSl w A n L) (h' : IntSl w A' n' xs) (hsm : n' ≤ 1000000000) (hM : mostN L ≤ 1000000000) :
    Calls Try.prog 20 #[.slice A n c, .slice A' n' c'] w fun e w' => e = .returned (.bool (refutesV L xs)) ∧ Ext w w' := by
  cases ht : tautV xs with
  | true =>
    have HR : Hid (refutesV L xs = true) := by unfold Hid; rw [refutesV, ht]; rfl
    go_enter Try.func20, Try.ntmps20
    go_wp2_with (go_at_call 54; (with_reducible refine (rTaut_c _ _ _ xs _ h').mono ?_); rintro e w' ⟨rfl, rfl⟩)
    go_ret
    exact ⟨ret_bool HR.out.symm, Ext.refl _⟩
  | false =>
    have HR : Hid (refutesV L xs = decide (0 ≤ (propV L (mostN L + 1) (oppsV xs) []).2.2)) := by unfold Hid; rw [refutesV, ht]; rfl
    have hol := oppsV_len xs
    rw [h'.1] at hol
    go_enter Try.func20, Try.ntmps20
    go_wp2_with (go_at_call 54; (with_reducible refine (rTaut_c _ _ _ xs _ h').mono ?_); rintro e w' ⟨rfl, rfl⟩)
    refine (opposites_c _ _ _ xs _ h' hsm).mono ?_
    rintro e w1 ⟨A1, n1, c1, rfl, hs, hx⟩
    go_wp2_with fail
    refine (rProp_c _ _ _ L _ _ _ (oppsV xs) _ (h.ext hx) hs (by have := hs.1; omega) hM).mono ?_
    rintro e w2 ⟨v, u, k, rfl, _, _, hk, hx2⟩
    have HK := Lib.hid hk
    clear hk
    go_wp2
    go_ret
    exact ⟨ret_bool (by rw [HR.out, ← HK.out]), hx.trans hx2⟩

set_option maxHeartbeats 1000000 in
theorem refutes_c (A : Option Addr) (n c : Nat) (L : List (List Int)) (A' : Option Addr) (n' c' : Nat) (xs : List Int) (w : World) (h : RowsSl w A n L) (h' : IntSl w A' n' xs) (hsm : n' ≤ 1000000000) (hM : mostN L ≤ 1000000000) :
    Calls Try.prog 19 #[.slice A n c, .slice A' n' c'] w fun e w' => e = .returned (.bool (refutesV L xs)) ∧ Ext w w' := by
  cases ht : tautV xs with
  | true =>
    have HR : Hid (refutesV L xs = true) := by unfold Hid; rw [refutesV, ht]; rfl
    go_enter Try.func19, Try.ntmps19
    go_wp2_with (go_at_call 52; (with_reducible refine (taut_c _ _ _ xs _ h' hsm).mono ?_); rintro e w1 ⟨rfl, hx⟩)
    go_ret
    exact ⟨ret_bool HR.out.symm, hx⟩
  | false =>
    have HR : Hid (refutesV L xs = decide (0 ≤ (propV L (mostN L + 1) (oppsV xs) []).2.2)) := by unfold Hid; rw [refutesV, ht]; rfl
    go_enter Try.func19, Try.ntmps19
    go_wp2_with (go_at_call 52; (with_reducible refine (taut_c _ _ _ xs _ h' hsm).mono ?_); rintro e w1 ⟨rfl, hx⟩; have HX := Lib.hid hx; clear hx)
    go_loopw [5, 16] (fun v i wr => ∃ k : Nat, k ≤ n' ∧ i = .int .i64 k ∧ OwnI wr w.heap.size v (oppsV (xs.take k)) ∧ Ext w wr) (fun _ i _ => n' - (intOf i).toNat)
    case atStart => exact ⟨0, Nat.zero_le _, rfl, OwnI.nil _ _, HX.out⟩
    case round =>
      obtain ⟨k, hk, rfl, hown, hx⟩ := hrel
      have HO := Lib.hid hown
      have HXR := Lib.hid hx
      have hsz := hx.size_le
      have hl1 := oppsV_len (xs.take k)
      have hl2 : (xs.take k).length ≤ k := List.length_take_le _ _
      have hl : (oppsV (xs.take k)).length ≤ 1000000000 := by omega
      have HL := Lib.hid hl
      clear hown hx hl1 hl2 hl
      by_cases hlt : k < n'
      · obtain ⟨ad, x, rfl, hx, hcx, hx1, hx2⟩ := (h'.ext HXR.out).at_ hlt
        have HT := Lib.hid (take_succ_of hx.out)
        have HS := Lib.hid (oppsV_snoc (xs.take k) x)
        rcases negV_zero x with ⟨hv, hz⟩ | ⟨hv, hz, hz2⟩
        · have HV := Lib.hid hv
          have HZ := Lib.hid hz
          clear hv hz
          go_wp2_with (go_at_call 53; refine (neg_c _ _).mono ?_; rintro e w' ⟨rfl, rfl⟩; rw [HZ.out])
          go_roundw
          case rel => exact ⟨k + 1, by omega, by go_num, by rw [HT.out, HS.out, if_neg (by simp [HV.out])]; exact HO.out, HXR.out⟩
          case measure => simp [intOf]; omega
        · obtain ⟨_, hxa, hxb⟩ := varV_pos hv
          have hnz : (-x != 0) = true := by rw [bne_iff_ne]; omega
          have hnz2 : (x != 0) = true := by rw [bne_iff_ne]; omega
          have hnz3 : ¬ x = 0 := by omega
          have HV := Lib.hid hv
          have HZ := Lib.hid hz
          clear hv hz hz2
          go_wp2_with (first
            | (go_at_call 53; refine (neg_c _ _).mono ?_; rintro e w' ⟨rfl, rfl⟩; rw [HZ.out])
            | (at_builtin; refine append1 _ rfl _ _ rfl w.heap.size _ _ rfl (HO.out.alloc _) _ _ _ rfl (cell_one _ _ _) (by omega) (by have := HL.out; omega) (by simp; omega) ?_; intro v' w2 ho2 hg2 _; have HO2 := Lib.hid ho2; have HG2 := Lib.hid hg2; clear ho2 hg2))
          go_roundw
          case rel => exact ⟨k + 1, by omega, by go_num, by rw [HT.out, HS.out, if_pos HV.out]; exact HO2.out, Below.grown (HXR.out.alloc _) HG2.out (by simp; omega) (fun j hj => (HO.out.blk j hj).1)⟩
          case measure => simp [intOf]; omega
      · have ho := HO.out
        have hl := HL.out
        rw [take_len_of h'.1 hlt] at ho hl
        obtain ⟨A1, n1, c1, rfl, hs⟩ := ho.sl (by omega) (oppsV_bd xs)
        have HSL := Lib.hid hs
        have hn1 : n1 ≤ 1000000000 := by have := hs.1; omega
        clear ho hl hs
        go_wp2_with fail
        refine (prop_c _ _ _ L _ _ _ (oppsV xs) _ (h.ext HXR.out) HSL.out hn1 hM).mono ?_
        rintro e w2 ⟨v, u, k, rfl, _, _, hk, hx2⟩
        have HK := Lib.hid hk
        clear hk
        go_wp2
        go_ret
        exact ⟨ret_bool (by rw [HR.out, ← HK.out]), HXR.out.trans hx2⟩
end Go.Proofs.Ythkjcdkdfeckbaa
