/- replevinref02.Holds: does a clause hold with truths? -/
import Derived.Test.YtdhohoabcokdjaaLit
import Derived.Test.YtdhohoabcokdjaaBoolSl
set_option maxRecDepth 100000
namespace Go.Proofs.Ytdhohoabcokdjaa
open Go.RowKit

/-- What truths say of a variable. -/
def truthV (m : List Bool) (v : Int) : Bool := decide (v ≤ (m.length : Int)) && m.getD (v - 1).toNat false
/-- Does a literal hold? -/
def litHolds (m : List Bool) (x : Int) : Bool := decide (varV x ≠ 0) && (truthV m (varV x) == sideV x)
def holdsV (c : List Int) (m : List Bool) : Bool := c.any (litHolds m)
theorem holdsV_snoc {c : List Int} {m : List Bool} {x : Int} (h : holdsV c m = false) (hx : litHolds m x = false) : holdsV (c ++ [x]) m = false := by
  unfold holdsV at h ⊢; rw [List.any_append, h]; simp [hx]
theorem holdsV_hit {c : List Int} {m : List Bool} {x : Int} {k : Nat} (h : c[k]? = some x) (hx : litHolds m x = true) : holdsV c m = true := by
  rw [holdsV, List.any_eq_true]; exact ⟨x, List.mem_iff_getElem?.2 ⟨k, h⟩, hx⟩

set_option maxHeartbeats 1000000 in
theorem rHolds_c (A : Option Addr) (n c : Nat) (cl : List Int) (A' : Option Addr) (n' c' : Nat) (m : List Bool) (w : World) (h : IntSl w A n cl) (h' : BoolSl w A' n' m) :
    Calls Try.prog 23 #[.slice A n c, .slice A' n' c'] w fun e w' => e = .returned (.bool (holdsV cl m)) ∧ w = w' := by
  have hn := h.len
  have hn' := h'.len
  have hlen := h'.1
  go_enter Try.func23, Try.ntmps23
  go_wp2
  go_loop [5] (fun i => ∃ k : Nat, k ≤ n ∧ i = .int .i64 k ∧ holdsV (cl.take k) m = false) (fun i => n - (intOf i).toNat)
  case atStart => exact ⟨0, Nat.zero_le _, rfl, rfl⟩
  case round =>
    obtain ⟨k, hk, rfl, hno⟩ := hrel
    have HN := Lib.hid hno
    clear hno
    by_cases hlt : k < n
    · obtain ⟨ad, x, rfl, hx, hcx, hx1, hx2⟩ := h.at_ hlt
      have HT := Lib.hid (take_succ_of hx.out)
      have hb : 0 ≤ varV x ∧ varV x ≤ 100000 := by unfold varV; split <;> (try split) <;> omega
      obtain ⟨j, hj⟩ := Int.eq_ofNat_of_zero_le hb.1
      have hjb : j ≤ 100000 := by omega
      have HJ := Lib.hid hj
      clear hj hb
      by_cases hv : j = 0
      · subst hv
        have HL : Hid (litHolds m x = false) := by unfold Hid; rw [litHolds, HJ.out]; rfl
        go_wp2_with (go_at_call 57; refine (rSplit_c _ _).mono ?_; rintro e w' ⟨rfl, rfl⟩; rw [HJ.out])
        go_round
        case rel => exact ⟨k + 1, by omega, by go_num, by rw [HT.out]; exact holdsV_snoc HN.out HL.out⟩
        case measure => simp [intOf]; omega
      · obtain ⟨i, rfl⟩ : ∃ i, j = i + 1 := ⟨j - 1, by omega⟩
        clear hv
        have HL : Hid (litHolds m x = ((decide (i < n') && m.getD i false) == sideV x)) := by
          unfold Hid; rw [litHolds, truthV, HJ.out, hlen]
          have e1 : decide (((i + 1 : Nat) : Int) ≠ 0) = true := by rw [decide_eq_true_eq]; omega
          have e2 : decide (((i + 1 : Nat) : Int) ≤ (n' : Int)) = decide (i < n') := by rw [decide_eq_decide]; omega
          have e3 : (((i + 1 : Nat) : Int) - 1).toNat = i := by omega
          rw [e1, e2, e3, Bool.true_and]
        by_cases hle : i < n'
        · obtain ⟨ad', y, rfl, hy, hcy⟩ := h'.at_ hle
          have hle2 : (i : Int) < n' := by omega
          have hg : m.getD i false = y := by rw [List.getD_eq_getElem?_getD, hy.out]; rfl
          rw [hg, show decide (i < n') = true from by simp [hle], Bool.true_and] at HL
          clear hg
          cases hs : (y == sideV x) with
          | true =>
            rw [hs] at HL
            have HR := Lib.hid (holdsV_hit hx.out HL.out)
            go_wp2_with (go_at_call 57; refine (rSplit_c _ _).mono ?_; rintro e w' ⟨rfl, rfl⟩; rw [HJ.out])
            go_ret
            exact ⟨ret_bool HR.out.symm, rfl⟩
          | false =>
            rw [hs] at HL
            go_wp2_with (go_at_call 57; refine (rSplit_c _ _).mono ?_; rintro e w' ⟨rfl, rfl⟩; rw [HJ.out])
            go_round
            case rel => exact ⟨k + 1, by omega, by go_num, by rw [HT.out]; exact holdsV_snoc HN.out HL.out⟩
            case measure => simp [intOf]; omega
        · rw [show decide (i < n') = false from by simp [hle], Bool.false_and] at HL
          have hle2 : ¬ ((i : Int) < n') := by omega
          cases hs : (false == sideV x) with
          | true =>
            rw [hs] at HL
            have HR := Lib.hid (holdsV_hit hx.out HL.out)
            go_wp2_with (go_at_call 57; refine (rSplit_c _ _).mono ?_; rintro e w' ⟨rfl, rfl⟩; rw [HJ.out])
            go_ret
            exact ⟨ret_bool HR.out.symm, rfl⟩
          | false =>
            rw [hs] at HL
            go_wp2_with (go_at_call 57; refine (rSplit_c _ _).mono ?_; rintro e w' ⟨rfl, rfl⟩; rw [HJ.out])
            go_round
            case rel => exact ⟨k + 1, by omega, by go_num, by rw [HT.out]; exact holdsV_snoc HN.out HL.out⟩
            case measure => simp [intOf]; omega
    · go_wp2
      go_ret
      exact ⟨ret_bool (by have := HN.out; rw [take_len_of h.1 hlt] at this; exact this.symm), rfl⟩
end Go.Proofs.Ytdhohoabcokdjaa
