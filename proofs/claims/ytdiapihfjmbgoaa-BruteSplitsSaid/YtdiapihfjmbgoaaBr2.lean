/- Layer 22 (brute): why a formula can't be gone through; the truths of a set. -/
import Derived.Test.YtdiapihfjmbgoaaBr1
import Derived.Test.YtdiapihfjmbgoaaNB
set_option maxRecDepth 100000
namespace Go.Proofs.Ytdiapihfjmbgoaa
open Go.RowKit

theorem bcheck_c (v : Int) (A : Option Addr) (n c : Nat) (L : List (List Int)) (w : World) (h : RowsSl w A n L) :
    Calls Try.prog 27 #[.agg #[.int .i64 v, .slice A n c]] w fun e w' => e = .returned (.int .i64 (bCheckV v L)) ∧ Ext w w' := by
  have hX := (Ext.refl w).alloc (Obj.cells #[.int .i64 v, .slice A n c] 24)
  have HB := Lib.hid (Blk.new w 24 #[.int .i64 v, .slice A n c])
  have HX := Lib.hid hX
  have HR := Lib.hid (h.ext hX)
  clear h hX
  by_cases he : (fCheckV v L).2 ≠ 0
  · have HV : Hid (bCheckV v L = (fCheckV v L).2) := by unfold Hid bCheckV; rw [if_pos he]
    have hne : ((fCheckV v L).2 != 0) = true := by simpa using he
    clear he
    go_enter Try.func27, Try.ntmps27
    go_wp2_with fail
    refine (cnfCheck_c v _ _ _ L _ HR.out).mono ?_
    rintro e w1 ⟨rfl, hx1⟩
    have HX1 := Lib.hid (HX.out.trans hx1)
    clear hx1
    generalize (fCheckV v L).2 = y at hne HV
    go_wp2
    go_ret
    exact ⟨ret_int HV.out.symm, HX1.out⟩
  · have he0 : (fCheckV v L).2 = 0 := by omega
    have HE := Lib.hid he0
    by_cases h16 : 16 < v
    · have HV : Hid (bCheckV v L = 3) := by unfold Hid bCheckV; rw [if_neg he, if_pos h16]
      clear he he0
      go_enter Try.func27, Try.ntmps27
      go_wp2_with fail
      refine (cnfCheck_c v _ _ _ L _ HR.out).mono ?_
      rintro e w1 ⟨rfl, hx1⟩
      have a0 := (HB.out.ext hx1).cell 0
      have HX1 := Lib.hid (HX.out.trans hx1)
      clear hx1
      rw [HE.out]
      go_wp2
      go_ret
      exact ⟨ret_int HV.out.symm, HX1.out⟩
    · have HV : Hid (bCheckV v L = 0) := by unfold Hid bCheckV; rw [if_neg he, if_neg h16]
      clear he he0
      go_enter Try.func27, Try.ntmps27
      go_wp2_with fail
      refine (cnfCheck_c v _ _ _ L _ HR.out).mono ?_
      rintro e w1 ⟨rfl, hx1⟩
      have a0 := (HB.out.ext hx1).cell 0
      have HX1 := Lib.hid (HX.out.trans hx1)
      clear hx1
      rw [HE.out]
      go_wp2
      go_ret
      exact ⟨ret_int HV.out.symm, HX1.out⟩

theorem ofInt_u32 (a : Nat) (ha : a < 4294967296) : (BitVec.ofInt 32 (a : Int)).toNat = a := by
  rw [BitVec.ofInt_natCast, BitVec.toNat_ofNat]; exact Nat.mod_eq_of_lt (by omega)
theorem u32_and (a b : Nat) (ha : a < 4294967296) (hb : b < 4294967296) : bits .and .u32 (a : Int) (b : Int) = ((a &&& b : Nat) : Int) := by
  have hx : a &&& b < 2 ^ 32 := Nat.and_lt_two_pow _ (by omega)
  show IntKind.u32.wrap ((BitVec.ofInt 32 (a : Int) &&& BitVec.ofInt 32 (b : Int)).toNat : Int) = _
  rw [BitVec.toNat_and, ofInt_u32 a ha, ofInt_u32 b hb, IntWalk.u32_in _ (by omega)]
theorem u32_or (a b : Nat) (ha : a < 4294967296) (hb : b < 4294967296) : bits .or .u32 (a : Int) (b : Int) = ((a ||| b : Nat) : Int) := by
  have hx : a ||| b < 2 ^ 32 := Nat.or_lt_two_pow (by omega) (by omega)
  show IntKind.u32.wrap ((BitVec.ofInt 32 (a : Int) ||| BitVec.ofInt 32 (b : Int)).toNat : Int) = _
  rw [BitVec.toNat_or, ofInt_u32 a ha, ofInt_u32 b hb, IntWalk.u32_in _ (by omega)]
theorem div_pow_cast (m k : Nat) : (m : Int) / 2 ^ k = ((m / 2 ^ k : Nat) : Int) := by simp
theorem u32_bit (m k : Nat) (hm : m < 2 ^ 16) : (bits .and .u32 ((m : Int) / 2 ^ k) 1 == 1) = m.testBit k := by
  have h1 : m / 2 ^ k ≤ m := Nat.div_le_self _ _
  rw [div_pow_cast, show (1 : Int) = ((1 : Nat) : Int) from rfl, u32_and _ 1 (by omega) (by omega), Nat.and_one_is_mod, Nat.testBit_eq_decide_div_mod_eq]
  by_cases h : m / 2 ^ k % 2 = 1
  · rw [h]; rfl
  · have : m / 2 ^ k % 2 = 0 := by omega
    rw [this]; rfl
set_option maxHeartbeats 2000000 in
theorem btruths_c (m n : Nat) (w : World) (hn : n ≤ 16) (hm : m < 2 ^ 16) :
    Calls Try.prog 29 #[.int .u32 m, .int .i64 n] w (RetBools (bitsV m n) w) := by
  obtain ⟨i0, hi, hz0, hz1, hz2⟩ := info_parts infoBool
  have hmk := fun W => run_make_rowN (P := Try.prog) 33 4 i0 _ Try.underlying33 hi hz0 .i64 .i64 n n (Nat.le_refl _) (by rw [hz2]; omega) (by omega) W
  rw [hz1, Nat.mul_one, show (Value.bool false).cells = #[Value.bool false] from rfl] at hmk
  clear hi hz0 hz1 hz2
  go_enter Try.func29, Try.ntmps29
  go_wp2
  go_loopw [6, 11] (fun _ i wr => ∃ k : Nat, k ≤ n ∧ i = .int .i64 k ∧ Blk wr w.heap.size 4 (fillG (fun j => .bool (m.testBit j)) (.bool false) n k) ∧ Ext w wr) (fun _ i _ => n - (intOf i).toNat)
  case atStart =>
    refine ⟨0, Nat.zero_le _, rfl, ?_, (Ext.refl _).alloc _⟩
    rw [fillG_zero]
    exact Blk.new w 4 (madeCells #[Value.bool false] n)
  case round =>
    obtain ⟨k, hk, rfl, hb, hx⟩ := hrel
    have HB := Lib.hid hb
    have HX := Lib.hid hx
    clear hb hx
    by_cases hlt : k < n
    · have hcell := (HB.out.cell k).trans (fillG_at _ _ n k k hlt)
      have hfr := HB.out.frozen k
      simp only [Nat.lt_irrefl, if_false] at hcell
      go_wp2
      go_roundw
      case rel =>
        refine ⟨k + 1, by omega, by go_num, ?_, HX.out.setCell (Nat.le_refl _) _⟩
        rw [u32_bit m k hm]
        have := HB.out.set_ k (.bool (m.testBit k))
        rw [fillG_set (fun j => .bool (m.testBit j)) _ n k hlt] at this
        exact this
      case measure => simp [intOf]; omega
    · obtain rfl : k = n := by omega
      go_wp2
      go_ret
      exact ⟨_, _, _, rfl, Blk.bools HB.out (bitsV_len m k) (by omega) (fun j x hj => by
        have hjk : j < k := by have := (List.getElem?_eq_some_iff.1 hj).1; rwa [bitsV_len] at this
        rw [fillG_at _ _ k k j hjk, if_pos hjk]
        rw [bitsV_get m hjk] at hj
        cases hj; rfl), HX.out⟩
end Go.Proofs.Ytdiapihfjmbgoaa
