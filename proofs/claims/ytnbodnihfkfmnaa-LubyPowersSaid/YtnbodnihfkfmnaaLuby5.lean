/- Layer 18: the reference's First. -/
import Derived.Test.YtnbodnihfkfmnaaLuby4
import Derived.Test.YtnbodnihfkfmnaaApp
namespace Go.Proofs.Ytnbodnihfkfmnaa
open Go.RowKit

def lubyT (k : Nat) : List Int := (List.range k).map fun i => (lubyN (i + 1) : Int)
theorem lubyT_len (k : Nat) : (lubyT k).length = k := by simp [lubyT]
theorem lubyT_succ (k : Nat) : lubyT (k + 1) = lubyT k ++ [(lubyN (k + 1) : Int)] := by simp [lubyT, List.range_succ]
theorem lubyT_bd (k : Nat) (h : k ≤ 1000000) : ∀ x ∈ lubyT k, -9223372036854775808 ≤ x ∧ x ≤ 9223372036854775807 := by
  intro x hx
  obtain ⟨j, hj, rfl⟩ := List.mem_map.1 hx
  have hj' := List.mem_range.1 hj
  have := lubyN_bd (j + 1) (by omega) (by omega)
  omega

set_option maxHeartbeats 1000000 in
theorem rLubyFirst_c (n : Int) (w : World) : Calls Try.prog 32 #[.int .i64 n] w (RetInts (lubyL n) w) := by
  by_cases h : n < 1 ∨ 100000 < n
  · have HF : Hid (lubyL n = []) := by unfold Hid; rw [lubyL, if_pos h]
    go_enter Try.func32, Try.ntmps32
    go_wp2
    refine wp_loop_rounds 1 ?_
    rw [rounds_succ]
    go_wp2
    all_goals
      go_ret
      exact ⟨none, 0, 0, rfl, by rw [HF.out]; exact IntSl.nil w, Ext.refl w⟩
  · obtain ⟨m, rfl⟩ := Int.eq_ofNat_of_zero_le (show 0 ≤ n by omega)
    have HF : Hid (lubyL m = lubyT m) := by unfold Hid; rw [lubyL, if_neg h, Int.toNat_natCast]; rfl
    have h1 : 1 ≤ m := by omega
    have h2 : m ≤ 100000 := by omega
    clear h
    go_enter Try.func32, Try.ntmps32
    go_wp2
    go_loopw [3, 4] (fun v i wr => ∃ k : Nat, k ≤ m ∧ i = .int .i64 ((k : Int) + 1) ∧ OwnI wr w.heap.size v (lubyT k) ∧ Ext w wr) (fun _ i _ => m + 1 - (intOf i).toNat)
    case atStart => exact ⟨0, Nat.zero_le _, rfl, OwnI.nil _ _, Ext.refl w⟩
    case round =>
      obtain ⟨k, hk, rfl, hown, hx⟩ := hrel
      have HO := Lib.hid hown
      have HX := Lib.hid hx
      have hsz := hx.size_le
      clear hown hx
      have hb4 := lubyN_bd (k + 1) (by omega) (by omega)
      have hl := lubyT_len k
      have HL := Lib.hid hl
      clear hl
      have HA : Hid (lubyAt ((k : Int) + 1) = lubyN (k + 1)) := by unfold Hid; rw [lubyAt, if_neg (by omega)]; congr 1
      by_cases hlt : k < m
      · go_wp2_with (first
          | (go_at_call 29; refine (rLubyAt_c _ _).mono ?_; rintro e w' ⟨rfl, rfl⟩; rw [HA.out])
          | (at_builtin; refine append1 _ rfl _ _ rfl w.heap.size _ _ rfl (HO.out.alloc _) _ _ _ rfl (cell_one _ _ _) (by omega) (by rw [HL.out]; omega) (by simp; omega) ?_; intro v' w2 ho2 hg2 _; have HO2 := Lib.hid ho2; have HG2 := Lib.hid hg2; clear ho2 hg2))
        go_roundw
        case rel => exact ⟨k + 1, by omega, by go_num, by rw [lubyT_succ]; exact HO2.out, Below.grown (HX.out.alloc _) HG2.out (by simp; omega) (fun j hj => (HO.out.blk j hj).1)⟩
        case measure => simp [intOf]; omega
      · go_wp2
        go_ret
        obtain rfl : k = m := by omega
        obtain ⟨A, n', c, rfl, hs⟩ := HO.out.sl (by rw [HL.out]; omega) (lubyT_bd k (by omega))
        exact ⟨A, n', c, rfl, by rw [HF.out]; exact hs, HX.out⟩
end Go.Proofs.Ytnbodnihfkfmnaa
