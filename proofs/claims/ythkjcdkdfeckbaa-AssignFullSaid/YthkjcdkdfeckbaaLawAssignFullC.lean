/- AssignFull answers true. -/
import Derived.Test.YthkjcdkdfeckbaaAssignAwake
import Derived.Test.YthkjcdkdfeckbaaAssign8
namespace Go.Proofs.Ythkjcdkdfeckbaa
open Go.RowKit

set_option maxHeartbeats 4000000 in
theorem lawAssignFull_c (A : Option Addr) (n c : Nat) (m : List Bool) (A' : Option Addr) (n' c' : Nat) (cl : List Int) (w : World) (h : BoolSl w A n m) (h' : IntSl w A' n' cl) :
    Calls Try.prog 8 #[.slice A n c, .slice A' n' c'] w fun e w' => e = .returned (.bool true) ∧ Ext w w' := by
  have hlen := h.1
  have hlen' := h'.len
  by_cases hc : 300 < n ∨ 200 < n'
  · rcases hc with hc | hc
    all_goals
      go_enter Try.func8, Try.ntmps8
      go_wp2_with (go_at_call 27; refine (law03awake_c _).mono ?_; rintro e w1 ⟨rfl, hx⟩)
      all_goals
        try go_ret
        try exact ⟨rfl, hx⟩
    all_goals (exfalso; omega)
  · have hn : ¬ 300 < n := by omega
    have hn2 : ¬ 200 < n' := by omega
    clear hc
    have f1 := fullV_lits hlen (by omega)
    have f2 : sameB (modelV (litsV m) n) m = true := by rw [modelV_lits hlen (by omega)]; exact sameB_refl m
    have hcl := fun hc => clause_holds (c := cl) hlen (by omega) hc
    have hll : (litsV m).length = n := by rw [litsV, if_neg (by omega), litsT_len, hlen]
    have HLL := Lib.hid hll
    have HCL := Lib.hid hcl
    clear hll hcl hlen
    go_enter Try.func8, Try.ntmps8
    go_wp2_with (first
      | (go_at_call 39; (with_reducible refine (from_list_c _ _ _ m _ h).mono ?_); rintro e w1 ⟨A1, m1, c1, rfl, hs1, hx1⟩; have hm1 : m1 ≤ 1000000000000 := (by have e1 := hs1.1; have e2 := HLL.out; omega); have HS1 := Lib.hid hs1; clear hs1)
      | (go_at_call 41; (with_reducible refine (full_c _ _ _ (litsV m) n _ HS1.out hm1 (by omega) (by omega)).mono ?_); rintro e w2 ⟨rfl, hx2⟩)
      | (go_at_call 37; (with_reducible refine (model_c _ _ _ (litsV m) n _ (HS1.out.ext hx2) hm1).mono ?_); rintro e w3 ⟨A3, m3, c3, rfl, hs3, hx3⟩)
      | (go_at_call 36; (with_reducible refine (sameB_c _ _ _ (modelV (litsV m) n) _ _ _ m _ hs3 ?_).mono ?_); (exact h.ext (hx1.trans (hx2.trans hx3))); rintro e w4 ⟨rfl, hx4⟩; have hx14 := hx2.trans (hx3.trans hx4)))
    have HX14 := Lib.hid hx14
    have HX04 := Lib.hid (hx1.trans hx14)
    clear hx1 hx2 hx3 hx4 hx14
    go_loop [6] (fun i => ∃ k : Nat, k ≤ n' ∧ i = .int .i64 k ∧ badL (cl.take k) n = false) (fun i => n' - (intOf i).toNat)
    case atStart => exact ⟨0, Nat.zero_le _, rfl, rfl⟩
    case round =>
      obtain ⟨k, hk, rfl, hb⟩ := hrel
      have HB := Lib.hid hb
      clear hb
      by_cases hlt : k < n'
      · obtain ⟨ad, x, rfl, hx, hcx, hx1, hx2⟩ := (h'.ext HX04.out).at_ hlt
        have HT := Lib.hid (take_succ_of hx.out)
        by_cases hck : checkV x n = 0
        · have HCK := Lib.hid hck
          have hckb : (checkV x n != 0) = false := by simpa using hck
          clear hck
          go_wp2_with (go_at_call 42; refine (rCheck_c _ _ _).mono ?_; rintro e w' ⟨rfl, rfl⟩)
          go_round
          case rel => exact ⟨k + 1, by omega, by go_num, by rw [HT.out]; exact badL_snoc HB.out HCK.out⟩
          case measure => simp [intOf]; omega
        · have hckb : (checkV x n != 0) = true := by simpa using hck
          clear hck
          go_wp2_with (first
            | (go_at_call 42; refine (rCheck_c _ _ _).mono ?_; rintro e w' ⟨rfl, rfl⟩)
            | (go_at_call 27; refine (law03awake_c _).mono ?_; rintro e w5 ⟨rfl, hx5⟩))
          go_ret
          exact ⟨rfl, HX04.out.trans hx5⟩
      · have hb := HB.out
        rw [take_len_of h'.1 hlt] at hb
        have hcv := HCL.out hb
        clear hb
        have hcl4 := h'.ext HX04.out
        have hs4 := HS1.out.ext HX14.out
        cases hh : holdsV cl m with
        | true =>
          rw [hh, if_pos rfl] at hcv
          go_wp2_with (first
            | (go_at_call 22; (with_reducible refine (rHolds_c _ _ _ cl _ _ _ m _ hcl4 (h.ext HX04.out)).mono ?_); rintro e w' ⟨rfl, rfl⟩)
            | (go_at_call 33; (with_reducible refine (clause_c _ _ _ (litsV m) _ _ _ cl _ hs4 hcl4 hm1).mono ?_); rintro e w5 ⟨rfl, hx5⟩)
            | (go_at_call 27; refine (law03awake_c _).mono ?_; rintro e w6 ⟨rfl, hx6⟩))
          go_ret
          exact ⟨rfl, HX04.out.trans (hx5.trans hx6)⟩
        | false =>
          rw [hh, if_neg (by decide)] at hcv
          go_wp2_with (first
            | (go_at_call 22; (with_reducible refine (rHolds_c _ _ _ cl _ _ _ m _ hcl4 (h.ext HX04.out)).mono ?_); rintro e w' ⟨rfl, rfl⟩)
            | (go_at_call 33; (with_reducible refine (clause_c _ _ _ (litsV m) _ _ _ cl _ hs4 hcl4 hm1).mono ?_); rintro e w5 ⟨rfl, hx5⟩)
            | (go_at_call 27; refine (law03awake_c _).mono ?_; rintro e w6 ⟨rfl, hx6⟩))
          go_ret
          exact ⟨rfl, HX04.out.trans (hx5.trans hx6)⟩
end Go.Proofs.Ythkjcdkdfeckbaa
