/- LitLists answers true. -/
import Derived.Test.YtnbodnihfkfmnaaLitAwake
namespace Go.Proofs.Ytnbodnihfkfmnaa
open Go.RowKit

set_option maxHeartbeats 1000000 in
theorem lawLitLists_c (A : Option Addr) (n c : Nat) (xs : List Int) (v : Int) (w : World) (h : IntSl w A n xs) (_h0 : -9223372036854775808 ≤ v) (h1 : v ≤ 9223372036854775807) :
    Calls Try.prog 4 #[.slice A n c, .int .i64 v] w fun e w' => e = .returned (.bool true) ∧ Ext w w' := by
  go_enter Try.func4, Try.ntmps4
  go_wp2_with (first
    | (go_at_call 23; refine (of_c _ _ _ xs _ _ h h1).mono ?_; rintro e w1 ⟨rfl, hx⟩; have h' := h.ext hx)
    | (go_at_call 24; refine (rOf_c _ _ _ xs _ _ (by assumption)).mono ?_; rintro e w' ⟨rfl, rfl⟩)
    | (go_at_call 25; refine (most_c _ _ _ xs _ (by assumption)).mono ?_; rintro e w' ⟨rfl, rfl⟩)
    | (go_at_call 26; refine (rMost_c _ _ _ xs _ (by assumption)).mono ?_; rintro e w' ⟨rfl, rfl⟩)
    | (go_at_call 22; refine (law01awake_c _).mono ?_; rintro e w' ⟨rfl, hy⟩))
  all_goals
    go_ret
    exact ⟨rfl, by repeat (first | exact Ext.refl _ | assumption | refine Ext.trans ?_ (by assumption))⟩
end Go.Proofs.Ytnbodnihfkfmnaa
