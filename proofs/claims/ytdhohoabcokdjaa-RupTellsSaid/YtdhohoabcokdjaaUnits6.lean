/- Layer 7 (units): Refutes. -/
import Derived.Test.YtdhohoabcokdjaaUnits5
import Derived.Test.YtdhohoabcokdjaaTaut2
set_option maxRecDepth 100000
namespace Go.Proofs.Ytdhohoabcokdjaa
open Go.RowKit Go.Maps

def refutesV (L : List (List Int)) (c : List Int) : Bool := tautV c || decide (0 ≤ (propV L (mostN L + 1) (oppsV c) []).2.2)
theorem negV_zero (x : Int) : (varV x = 0 ∧ negV x = 0) ∨ (varV x ≠ 0 ∧ negV x = -x ∧ negV x ≠ 0) := by
  unfold varV negV; (repeat (first | omega | split))

set_option maxHeartbeats 1000000 in
theorem rRefutes_c (A : Option Addr) (n c : Nat) (L : List (List Int)) (A' : Option Addr) (n' c' : Nat) (xs : List Int) (w : World) (h : RowsSl w A n L) (h' : IntSl w A' n' xs) (hsm : n' ≤ 1000000000) (hM : mostN L ≤ 1000000000) :
    Calls Try.prog 25 #[.slice A n c, .slice A' n' c'] w fun e w' => e = .returned (.bool (refutesV L xs)) ∧ Ext w w' := by
  cases ht : tautV xs with
  | true =>
    have HR : Hid (refutesV L xs = true) := by unfold Hid; rw [refutesV, ht]; rfl
    go_enter Try.func25, Try.ntmps25
    go_wp2_with (go_at_call 51; (with_reducible refine (rTaut_c _ _ _ xs _ h').mono ?_); rintro e w' ⟨rfl, rfl⟩)
    go_ret
    exact ⟨ret_bool HR.out.symm, Ext.refl _⟩
  | false =>
    have HR : Hid (refutesV L xs = decide (0 ≤ (propV L (mostN L + 1) (oppsV xs) []).2.2)) := by unfold Hid; rw [refutesV, ht]; rfl
    have hol := oppsV_len xs
    rw [h'.1] at hol
    go_enter Try.func25, Try.ntmps25
    go_wp2_with (go_at_call 51; (with_reducible refine (rTaut_c _ _ _ xs _ h').mono ?_); rintro e w' ⟨rfl, rfl⟩)
    refine (opposites_c _ _ _ xs _ h' hsm).mono ?_
    rintro e w1 ⟨A1, n1, c1, rfl, hs, hx⟩
    go_wp2_with fail
    refine (rProp_c _ _ _ L _ _ _ (oppsV xs) _ (h.ext hx) hs (by have := hs.1; omega) hM).mono ?_
    rintro e w2 ⟨v, u, k, rfl, _, _, hk, hx2⟩
    have HK := Lib.hid hk
    clear hk
    go_wp2
    go_ret
    exact ⟨ret_bool (by rw [HR.out, ← HK.out]), hx.trans hx2⟩


end Go.Proofs.Ytdhohoabcokdjaa
