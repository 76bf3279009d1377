/- Layer 11's law: the models of a formula, counted. -/
import Derived.Test.YtdgflniahoidmaaLr22
import Derived.Test.YtdgflniahoidmaaFirst
set_option maxRecDepth 100000
namespace Go.Proofs.Ytdgflniahoidmaa
open Go.RowKit

def bits11 (i n : Nat) : List Bool := (List.range n).map fun j => i.testBit j
def cnt11 (L : List (List Int)) (n k : Nat) : Nat := (List.range k).countP fun i => decide (firstV L (bits11 i n) < 0)
def RetModels (L : List (List Int)) (n : Nat) (w : World) (e : Ending) (w' : World) : Prop := ∃ A m c, e = .returned (.tuple #[.int .i64 (cnt11 L n (2 ^ n) : Nat), .slice A m c]) ∧ Ext w w'

theorem cnt11_succ (L : List (List Int)) (n k : Nat) : cnt11 L n (k + 1) = cnt11 L n k + if firstV L (bits11 k n) < 0 then 1 else 0 := by
  unfold cnt11
  rw [List.range_succ, List.countP_append, List.countP_singleton]
  simp
theorem cnt11_le (L : List (List Int)) (n k : Nat) : cnt11 L n k ≤ k := by
  unfold cnt11
  exact Nat.le_trans List.countP_le_length (by simp)
theorem bits11_succ (i n : Nat) : bits11 i (n + 1) = bits11 i n ++ [i.testBit n] := by unfold bits11; rw [List.range_succ, List.map_append]; rfl
theorem bits11_len (i n : Nat) : (bits11 i n).length = n := by unfold bits11; simp
theorem bit11 {k j : Nat} (hk : k < 64) : (bits .and .i64 ((k : Int) / 2 ^ j) 1 == 1) = k.testBit j := by
  have e : ((k : Int) / 2 ^ j) = ((k / 2 ^ j : Nat) : Int) := by rw [Int.natCast_ediv]; simp
  have hle : k / 2 ^ j ≤ k := Nat.div_le_self _ _
  rw [e, Nat.testBit_eq_decide_div_mod_eq]
  clear e
  generalize k / 2 ^ j = q at hle ⊢
  rw [and_one_i64 _ (by omega) (by omega)]
  by_cases h : q % 2 = 1
  · rw [decide_eq_true h, beq_iff_eq]; omega
  · rw [decide_eq_false h, beq_eq_false_iff_ne]; omega

set_option maxHeartbeats 4000000 in
theorem models11_c (v : Int) (A : Option Addr) (a c : Nat) (L : List (List Int)) (n : Nat) (w : World) (h : RowsSl w A a L) (hn : n ≤ 6) :
    Calls Try.prog 10 #[.agg #[.int .i64 v, .slice A a c], .int .i64 n] w (RetModels L n w) := by
  have HX0 := Lib.hid ((Ext.refl w).alloc (Obj.cells #[.int .i64 v, .slice A a c] 24))
  have HB0 := Lib.hid (Blk.new w 24 #[.int .i64 v, .slice A a c])
  have HS := Lib.hid h
  clear h
  obtain ⟨N, hN⟩ : ∃ N, 2 ^ n = N := ⟨_, rfl⟩
  have hN64 : N ≤ 64 := by rw [← hN]; exact Nat.pow_le_pow_right (by decide) hn
  have hw : wrap64 ((2 : Int) ^ n) = (N : Int) := by
    rw [← hN, show ((2 : Int) ^ n) = ((2 ^ n : Nat) : Int) by simp, hN]
    unfold wrap64; omega
  have HN := Lib.hid hN
  rw [show RetModels L n w = fun e w' => ∃ A m c, e = .returned (.tuple #[.int .i64 (cnt11 L n N : Nat), .slice A m c]) ∧ Ext w w' by unfold RetModels; rw [hN]]
  clear hN
  go_enter Try.func10, Try.ntmps10
  go_wp2_with fail
  go_loopw [6, 7, 8] (fun q u i wr => ∃ (k : Nat) (B : Option Addr) (m cc : Nat), k ≤ N ∧ i = .int .i64 k ∧ q = .int .i64 (cnt11 L n k : Nat) ∧ u = .slice B m cc ∧ Ext (w.alloc (Obj.cells #[.int .i64 v, .slice A a c] 24)) wr) (fun _ _ i _ => N - (intOf i).toNat)
  case atStart => exact ⟨0, none, 0, 0, Nat.zero_le _, rfl, rfl, rfl, Ext.refl _⟩
  case round =>
    obtain ⟨k, B, m, cc, hk, rfl, rfl, rfl, hx⟩ := hrel
    have HX := Lib.hid hx
    have HSZ := Lib.hid hx.size_le
    clear hx
    obtain ⟨gz, hgz⟩ : ∃ g, wr.heap.size = g := ⟨_, rfl⟩
    have hgz1 : gz ≤ wr.heap.size := by omega
    have hgz2 : (w.alloc (Obj.cells #[.int .i64 v, .slice A a c] 24)).heap.size ≤ gz := by have := HSZ.out; omega
    clear hgz
    by_cases hlt : k < N
    · have hk64 : k < 64 := by omega
      have hcl := cnt11_le L n k
      go_wp2_with fail
      simp only [hw]
      clear hw
      go_loopw [9, 10] (fun b i wj => ∃ j : Nat, j ≤ n ∧ i = .int .i64 j ∧ OwnB wj gz b (bits11 k j) ∧ Ext (w.alloc (Obj.cells #[.int .i64 v, .slice A a c] 24)) wj ∧ gz ≤ wj.heap.size) (fun _ i _ => n - (intOf i).toNat)
      case atStart => exact ⟨0, Nat.zero_le _, rfl, OwnB.nil _ _, HX.out, hgz1⟩
      case round =>
        obtain ⟨j, hj, rfl, ho, hxj, hzj⟩ := hrel
        have HO := Lib.hid ho
        have HXJ := Lib.hid hxj
        have HZJ := Lib.hid hzj
        have hbl : (bits11 k j).length = j := bits11_len k j
        clear ho hxj hzj
        by_cases hjn : j < n
        · have hbit := bit11 (j := j) hk64
          go_wp2_with (at_builtin; refine append1B _ rfl _ _ rfl gz _ _ rfl (HO.out.alloc _) _ _ _ rfl (cell_one _ _ _) (by omega) (by have := HZJ.out; simp; omega) ?_; intro v' w2 ho2 hg2 _; have HO2 := Lib.hid ho2; have HX2 : Hid (Ext (w.alloc (Obj.cells #[.int .i64 v, .slice A a c] 24)) w2) := Ext.grown (HXJ.out.alloc _) hg2 (fun q hq => by have := (HO.out.blk q hq).1; omega); have HZ2 : Hid (gz ≤ w2.heap.size) := (by have := hg2.size; have := HZJ.out; simp at *; unfold Hid; omega); clear ho2 hg2)
          go_roundw
          case rel => exact ⟨j + 1, by omega, by go_num, by rw [bits11_succ]; exact HO2.out, HX2.out, HZ2.out⟩
          case measure => simp [intOf]; omega
        · have hjn2 : j = n := by omega
          subst hjn2
          obtain ⟨B2, m2, c2, rfl, hs2⟩ := HO.out.sl (by rw [bits11_len]; omega)
          have HS2 := Lib.hid hs2
          have hbj := HB0.out.ext HXJ.out
          have d0 := hbj.cell 0
          have d1 := hbj.cell 1
          clear hbj
          go_wp2_with fail
          refine (rFirst_c v _ _ _ L _ _ _ (bits11 k j) _ (HS.out.ext (HX0.out.trans HXJ.out)) HS2.out).mono ?_
          rintro e w5 ⟨rfl, hx5⟩
          have HX5 := Lib.hid (HXJ.out.trans hx5)
          clear hx5 d0 d1
          have HCS := Lib.hid (cnt11_succ L j k)
          generalize firstV L (bits11 k j) = q at HCS
          by_cases hq : q < 0
          · by_cases hz : cnt11 L j k = 0
            · rw [hz]
              rw [hz] at HCS
              go_wp2_with fail
              go_roundw
              case rel => exact ⟨k + 1, B2, m2, c2, by omega, by go_num, by rw [HCS.out, if_pos hq]; rfl, rfl, HX5.out⟩
              case measure => simp [intOf]; omega
            · have hzb : ((cnt11 L j k : Int) == 0) = false := by rw [beq_eq_false_iff_ne]; omega
              go_wp2_with fail
              go_roundw
              case rel => exact ⟨k + 1, B, m, cc, by omega, by go_num, by rw [HCS.out, if_pos hq]; go_num, rfl, HX5.out⟩
              case measure => simp [intOf]; omega
          · go_wp2_with fail
            go_roundw
            case rel => exact ⟨k + 1, B, m, cc, by omega, by go_num, by rw [HCS.out, if_neg (by omega)]; rfl, rfl, HX5.out⟩
            case measure => simp [intOf]; omega
    · go_wp2_with fail
      go_ret2
      have hkN : k = N := by omega
      subst hkN
      exact ⟨B, m, cc, rfl, HX0.out.trans HX.out⟩
end Go.Proofs.Ytdgflniahoidmaa
