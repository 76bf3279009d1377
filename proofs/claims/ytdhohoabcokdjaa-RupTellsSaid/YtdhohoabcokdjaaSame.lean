/- replevinref01.SameInts. -/
import Derived.Test.YtdhohoabcokdjaaSl
set_option maxRecDepth 100000
namespace Go.Proofs.Ytdhohoabcokdjaa
open Go.RowKit

def sameV (xs ys : List Int) : Bool := decide (xs = ys)
theorem take_eq_succ {α : Type} {xs ys : List α} {k : Nat} {x : α} (h : xs.take k = ys.take k) (hx : xs[k]? = some x) (hy : ys[k]? = some x) : xs.take (k + 1) = ys.take (k + 1) := by
  rw [take_succ_of hx, take_succ_of hy, h]

set_option maxHeartbeats 1000000 in
theorem same_c (A : Option Addr) (n c : Nat) (xs : List Int) (A' : Option Addr) (n' c' : Nat) (ys : List Int) (w : World) (h : IntSl w A n xs) (h' : IntSl w A' n' ys) :
    Calls Try.prog 21 #[.slice A n c, .slice A' n' c'] w fun e w' => e = .returned (.bool (sameV xs ys)) ∧ Ext w w' := by
  have hn := h.len
  by_cases hl : n = n'
  · subst hl
    go_enter Try.func21, Try.ntmps21
    go_wp2
    go_loopw [5] (fun i wr => ∃ k : Nat, k ≤ n ∧ i = .int .i64 k ∧ xs.take k = ys.take k ∧ Ext w wr) (fun i _ => n - (intOf i).toNat)
    case atStart => exact ⟨0, Nat.zero_le _, rfl, by simp, Ext.refl w⟩
    case round =>
      obtain ⟨k, hk, rfl, he, hx⟩ := hrel
      have HE := Lib.hid he
      have HX := Lib.hid hx
      clear he hx
      by_cases hlt : k < n
      · obtain ⟨ad, x, rfl, hx1, hc1, _⟩ := (h.ext HX.out).at_ hlt
        obtain ⟨ad', y, rfl, hy1, hc1', _⟩ := (h'.ext HX.out).at_ hlt
        have b0 : (0 : Int) ≤ (k : Int) := by omega
        have b1 : (k : Int) < (n : Int) := by omega
        go_wp2
        go_quiet (fail)
        go_wp2
        · go_ret
          have hne : (x != y) = true := by assumption
          refine ⟨ret_bool ?_, HX.out.drewN _⟩
          have : xs ≠ ys := fun e => by
            subst e
            have := hx1.out.symm.trans hy1.out
            simp at this hne
            exact hne this
          simp [sameV, this]
        · have hne : (x != y) = false := by assumption
          go_roundw
          case rel =>
            have e : x = y := by simpa using hne
            subst e
            exact ⟨k + 1, by omega, by go_num, take_eq_succ HE.out hx1.out hy1.out, HX.out.drewN _⟩
          case measure => simp [intOf]; omega
      · go_wp2
        go_ret
        refine ⟨ret_bool ?_, HX.out⟩
        have e := HE.out
        rw [take_len_of h.1 hlt, take_len_of h'.1 hlt] at e
        simp [sameV, e]
  · have hb : ((n : Int) != (n' : Int)) = true := by rw [bne_iff_ne]; omega
    have HL := Lib.hid hl
    clear hl
    go_enter Try.func21, Try.ntmps21
    go_wp2
    go_ret
    refine ⟨ret_bool ?_, Ext.refl w⟩
    have : xs ≠ ys := fun e => HL.out (by rw [← h.1, ← h'.1, e])
    simp [sameV, this]
end Go.Proofs.Ytdhohoabcokdjaa
