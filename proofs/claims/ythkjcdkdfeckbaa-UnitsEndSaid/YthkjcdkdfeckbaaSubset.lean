/- replevinref02.Subset. -/
import Derived.Test.YthkjcdkdfeckbaaTaut
namespace Go.Proofs.Ythkjcdkdfeckbaa
open Go.RowKit

def subV (a b : List Int) : Bool := a.all fun x => !(has2V a x) || has2V b x

set_option maxHeartbeats 1000000 in
theorem subset_c (A : Option Addr) (n c : Nat) (xs : List Int) (A' : Option Addr) (n' c' : Nat) (ys : List Int) (w : World) (h : IntSl w A n xs) (h' : IntSl w A' n' ys) :
    Calls Try.prog 26 #[.slice A n c, .slice A' n' c'] w fun e w' => e = .returned (.bool (subV xs ys)) ∧ w = w' := by
  have hn := h.len
  go_enter Try.func26, Try.ntmps26
  go_wp2
  go_loop [5] (fun i => ∃ k : Nat, k ≤ n ∧ i = .int .i64 k ∧ (xs.take k).all (fun x => !(has2V xs x) || has2V ys x) = true) (fun i => n - (intOf i).toNat)
  case atStart => exact ⟨0, Nat.zero_le _, rfl, rfl⟩
  case round =>
    obtain ⟨k, hk, rfl, hno⟩ := hrel
    have HN := Lib.hid hno
    clear hno
    by_cases hlt : k < n
    · obtain ⟨ad, x, rfl, hx, hcx, hx1, hx2⟩ := h.at_ hlt
      have HT := Lib.hid (take_succ_of hx.out)
      cases ha : has2V xs x <;> cases hb : has2V ys x
      all_goals
        have HA := Lib.hid ha
        have HB := Lib.hid hb
        clear ha hb
        go_wp2_with (first
          | (go_at_call 58; (with_reducible refine (has2_c _ _ _ xs x _ h).mono ?_); rintro e w' ⟨rfl, rfl⟩; rw [HA.out])
          | (go_at_call 58; (with_reducible refine (has2_c _ _ _ ys x _ h').mono ?_); rintro e w' ⟨rfl, rfl⟩; rw [HB.out]))
        first
          | (go_ret
             refine ⟨ret_bool ?_, rfl⟩
             symm
             rw [subV, List.all_eq_false]
             exact ⟨x, List.mem_of_getElem? hx.out, by rw [HA.out, HB.out]; decide⟩)
          | (go_round
             case rel => exact ⟨k + 1, by omega, by go_num, by rw [HT.out, List.all_append, HN.out]; simp [HA.out, HB.out]⟩
             case measure => simp [intOf]; omega)
    · go_wp2
      go_ret
      refine ⟨ret_bool ?_, rfl⟩
      have := HN.out
      rw [take_len_of h.1 hlt] at this
      exact this.symm
end Go.Proofs.Ythkjcdkdfeckbaa
