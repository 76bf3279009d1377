/- slices.AppendSeq, Collect, Sorted of a slice's numbers. -/
import Derived.Test.YtdgflniahoidmaaGreatLr4
import Derived.Test.YtdgflniahoidmaaGreatShelf
import Derived.RangeFuncNested
import Derived.RangeFuncBound
import Derived.RangeFuncCalls
import Derived.RangeFuncLeaves
import Derived.Shelf.Abstract
import Derived.Shelf.RegionOpen
import Derived.WalkKit
import Derived.OwnWalkIn
import Derived.TacticsInMore
import Derived.LoopNIn
import Derived.LoopIn
import Derived.Maps.AppendAt
import Derived.Sort.OwnSorted
set_option maxRecDepth 100000
namespace Go.Proofs.YtdgflniahoidmaaGreat
open Go.RowKit Go.Shelf
attribute [local go_sem] Oper.semAt_some

theorem values_c (A : Option Addr) (n c : Nat) (w : World) : Calls Tryz.prog 44 #[.slice A n c] w fun e w' => e = .returned (.func (.func 65) #[] #[.pointer (some ⟨w.heap.size, 0, none⟩)]) ∧ w' = w.alloc (Obj.cells #[.slice A n c] 42) := by
  go_enter Tryz.func44, Tryz.ntmps44
  go_wp2
  go_ret
  exact ⟨rfl, rfl⟩

set_option maxRecDepth 100000 in
set_option maxHeartbeats 4000000 in
theorem values1_in (n : Nat) (hn : 1 ≤ n) (l : Nat) (Bs : Nat) (A : Option Addr) (nn c : Nat) (xs : List Int) (J Jx : List Int → World → Prop) (w0 W : World) (hs : IntSl w0 A nn xs) (hB : W.cell? ⟨Bs, 0, none⟩ = some (.slice A nn c)) (hW : Below w0.heap.size w0 W)
    (hY : ∀ pre x W1, J pre W1 → pre.length < nn → YieldAt Fence.wide (n - 1) Tryz.prog l #[.int .i64 x] W1 fun e W' =>
      (e = .returned (.bool true) ∧ J (pre ++ [x]) W' ∧ Below w0.heap.size W1 W') ∨ (e = .returned (.bool false) ∧ Jx (pre ++ [x]) W'))
    (h0 : J [] W) :
    CallsIn Fence.wide n Tryz.prog 65 #[.func (.yield l) #[] #[], .pointer (some ⟨Bs, 0, none⟩)] W fun e W' => (∃ v, e = .returned v) ∧
      ((∃ ys, ys = xs ∧ J ys W') ∨ (∃ pre : List Int, (∃ k, k < nn ∧ pre = xs.take (k + 1)) ∧ Jx pre W')) := by
  have hlen := hs.len
  have HL := Lib.hid hs.1
  refine callsIn_of_wp Tryz.func65 rfl trivial ?_ rfl
  simp only [Tryz.ntmps65, List.size_toArray, List.length_cons, List.length_nil, Nat.reduceAdd, Nat.reduceSub, Array.replicate_succ, Array.replicate_zero, List.push_toArray, List.append_toArray, List.nil_append, List.cons_append]
  gi_wp2
  gi_loopw [4, 7] (fun _ i wr => ∃ k : Nat, k ≤ nn ∧ i = .int .i64 k ∧ J (xs.take k) wr ∧ Below w0.heap.size w0 wr) (fun _ i _ => nn - (intOf i).toNat)
  case atStart => exact ⟨0, Nat.zero_le _, rfl, h0, hW⟩
  case round =>
    obtain ⟨k, hk, rfl, hj, hb⟩ := hrel
    by_cases hlt : k < nn
    · obtain ⟨ad, x, rfl, hx, hcx, hx1, hx2⟩ := (hs.ext (show Ext w0 wr from hb)).at_ hlt
      have HT := Lib.hid (take_succ_of hx.out)
      have hpl : (xs.take k).length < nn := by rw [List.length_take]; omega
      obtain ⟨fn, tmps, assign, body, hy, hR3⟩ := hY (xs.take k) x wr hj hpl
      gi_wp2
      refine hR3.mono ?_
      rintro e W4 (⟨rfl, hJ4, hb4⟩ | ⟨rfl, hJx4⟩)
      · gi_wp2
        go_roundw
        case rel => exact ⟨k + 1, by omega, by go_num, by rw [HT.out]; exact hJ4, hb.trans hb4⟩
        case measure => simp [intOf]; omega
      · gi_wp2
        refine bodyPost_ret (results_none rfl _ _ _) rfl ?_
        exact ⟨⟨_, rfl⟩, .inr ⟨_, ⟨k, hlt, HT.out.symm⟩, hJx4⟩⟩
    · gi_wp2
      go_end0
      refine ⟨⟨_, rfl⟩, .inl ⟨xs, rfl, ?_⟩⟩
      rw [take_len_of HL.out hlt] at hj
      exact hj
end Go.Proofs.YtdgflniahoidmaaGreat

namespace Go.Proofs.YtdgflniahoidmaaGreat
open Go.RowKit Go.Shelf Go.Sort
attribute [local go_sem] Oper.semAt_some

theorem values_stops (n : Nat) (hn : 1 ≤ n) (Bs : Nat) (A : Option Addr) (nn c : Nat) (xs : List Int) (w0 w : World) (hs : IntSl w0 A nn xs) (hB : Blk w Bs 42 #[.slice A nn c]) (hw : Below w0.heap.size w0 w) :
    SeqStopsK Fence.wide n Tryz.prog 65 #[.pointer (some ⟨Bs, 0, none⟩)] (fun x : Int => #[Value.int .i64 x]) (Below w0.heap.size) (fun ys => ys = xs) (fun pre => ∃ k, k < nn ∧ pre = xs.take (k + 1)) nn w := fun l J Jx W hW _ _ hY h0 => by
  have hx : Ext w W := hW
  exact values1_in n hn l Bs A nn c xs J Jx w0 W hs ((hB.ext hx).cell 0) (hw.trans ((show Below w.heap.size w W from hW).mono hw.size)) hY h0

set_option maxRecDepth 100000 in
set_option maxHeartbeats 4000000 in
theorem appendSeqI_c (Bs : Nat) (A : Option Addr) (nn c : Nat) (xs : List Int) (w : World) (hsm : nn ≤ 1000000) (hBs : Blk w Bs 42 #[.slice A nn c]) (hs : IntSl w A nn xs) :
    Calls Tryz.prog 81 #[.slice none 0 0, .func (.func 65) #[] #[.pointer (some ⟨Bs, 0, none⟩)]] w fun e w' => ∃ v, e = .returned v ∧ OwnI w' w.heap.size v xs ∧ Ext w w' := by
  obtain ⟨i0, hi, hz0, hz1, hz2⟩ := info_parts infoInt
  have HLN := Lib.hid hs.1
  refine (callsIn_wide (n := 3)).1 ?_
  refine callsIn_of_wp_marks Tryz.func81 rfl trivial ?_ rfl
  simp only [Tryz.ntmps81, List.size_toArray, List.length_cons, List.length_nil, Nat.reduceAdd, Nat.reduceSub, Array.replicate_succ, Array.replicate_zero, List.push_toArray, List.append_toArray, List.nil_append, List.cons_append]
  gi_wp2
  have bO := Boxed.new w 42 (.slice none 0 0)
  have hX := (Ext.refl w).alloc (Obj.cells #[.slice none 0 0] 42)
  have hsz : (w.alloc (Obj.cells #[.slice none 0 0] 42)).heap.size = w.heap.size + 1 := by simp
  generalize w.alloc (Obj.cells #[.slice none 0 0] 42) = w3 at bO hX hsz ⊢
  refine wpIn_rangeFunc_ownG (F := Fence.wide) rfl (by decide) (gf := 65) (lb := #[.pointer (some ⟨Bs, 0, none⟩)]) rfl trivial (enters_of Tryz.func65 (by kernel_rfl) rfl)
    (values_stops 2 (by decide) Bs A nn c xs w w3 hs (hBs.ext hX) hX) belowK_t (belowK_b (by omega)) (Below.refl _ _) (fun _ => rfl)
    (fun (pre : List Int) W => (∃ u, Boxed W w.heap.size 42 u ∧ W.ownsRow w.heap.size 3 1 u pre.length (pre.map (Value.int .i64)) ∧ (u = .slice none 0 0 ↔ pre = [])) ∧ Below w.heap.size w W)
    (fun _ _ _ => False)
    (OwnFrom.and (Own.from (holdsRow_own w.heap.size w.heap.size 42 3 1 (fun (pre : List Int) => pre.length) (fun pre => pre.map (Value.int .i64)) (fun pre u => u = .slice none 0 0 ↔ pre = [])) _) (ownFrom_below (Nat.le_refl _) (by omega)))
    (fun _ _ _ _ _ hs _ _ => hs)
    ⟨⟨_, bO, World.ownsRow_nil _ _ _ _, by simp⟩, hX⟩
    (fun x => { tmps := #[.slice none 0 0, .func (.func 65) #[] #[.pointer (some ⟨Bs, 0, none⟩)], .pointer (some ⟨w.heap.size, 0, none⟩), undef, .slice none 0 0, .int .i64 x, .func (.func 65) #[] #[.pointer (some ⟨Bs, 0, none⟩)], .int .i64 x, undef, undef, undef, undef, undef], defers := [] }) ?assign ?body ?done ?stop
  case assign =>
    intro l x W K hK
    gi_wp2
    exact hK
  case body =>
    rintro l pre x W ⟨⟨u, hv, hrow, hnil⟩, hB⟩ hlt
    have hc := hv.cell
    gi_wp2_with (gi_at_builtin; refine wpListIn_append_own _ rfl _ _ 42 rfl w.heap.size 3 i0 (.int .i64 0) 1 8 Tryz.underlying42 hi hz0 hz1 hz2 rfl (by decide) _ _ _ rfl (hrow.alloc _) ⟨W.heap.size, 0, none⟩ 1 1 [.int .i64 x] rfl rfl (cell_one_new _ _ _) (by simp [Value.oneCell']) (by unfold maxLen; omega) (by omega) (by have := hB.size; simp; omega) ?_; intro v' w1 hown' hgrow _; obtain ⟨g', cap', rfl⟩ := ownsRow_succ hown'; obtain ⟨hv1, hv2, hr2, hk2, hb2⟩ := hv.appended (by decide) hrow hB.size (Nat.le_refl _) hown' hgrow; have hc1 := hv1.cell; have hf1 := hv1.frozen)
    exact ⟨hk2.from _, hb2, ⟨_, hv2, by simpa using hr2, by simp⟩, hB.trans hb2⟩
  case done =>
    rintro D ys W hD rfl ⟨⟨u, hv, hrow, _⟩, hB⟩ hK
    have hc := hv.cell
    have hr2 := ownsRow_putObj hrow (.deferred none) hK rfl
    gi_wp2
    refine ⟨by simp, .inl ⟨_, _, rfl, run_takeDeferred hK, ?_⟩⟩
    exact ⟨_, results_tmp rfl _ _ _, u, rfl, hr2, (show Ext w W from hB).grown (grownBy_putObj' W D _) (fun k e => by cases e; omega)⟩
  case stop =>
    rintro D c pre W _ _ h _
    exact h.elim

theorem collectI_c (Bs : Nat) (A : Option Addr) (nn c : Nat) (xs : List Int) (w : World) (hsm : nn ≤ 1000000) (hBs : Blk w Bs 42 #[.slice A nn c]) (hs : IntSl w A nn xs) :
    Calls Tryz.prog 55 #[.func (.func 65) #[] #[.pointer (some ⟨Bs, 0, none⟩)]] w fun e w' => ∃ v, e = .returned v ∧ OwnI w' w.heap.size v xs ∧ Ext w w' := by
  go_enter Tryz.func55, Tryz.ntmps55
  go_wp2_with fail
  refine (appendSeqI_c Bs A nn c xs _ hsm hBs hs).mono ?_
  rintro e w1 ⟨v, rfl, hv, hx⟩
  go_wp2_with fail
  go_ret
  exact ⟨_, rfl, hv, hx⟩

/-- Numbers, sorted. -/
def sortZ (xs : List Int) : List Int := xs.mergeSort fun x y => decide (x ≤ y)
theorem sortI_c (w : World) (base : Nat) (v : Value) (xs : List Int) (h : OwnI w base v xs) (hn : xs.length ≤ 1000000) :
    Calls Tryz.prog 56 #[v] w fun e w' => e = .returned (.tuple #[]) ∧ OwnI w' base v (sortZ xs) ∧ w.grownBy w' v.ownBlock := by
  have h0 : w.ownsRow base 3 1 v xs.length (xs.map (Value.int .i64)) := h
  rcases h0.2 with ⟨rfl, hz⟩ | ⟨gb, cap, cur, rfl, hbase, hgb, r1, r2, r3, r4⟩
  · have hxs : xs = [] := List.eq_nil_of_length_eq_zero hz
    subst hxs
    refine (Tryz.slices_Sort_int_none none 0 w).mono ?_
    rintro e w' ⟨rfl, rfl⟩
    exact ⟨rfl, by simpa [sortZ] using h, World.grownBy.refl _ _⟩
  · have hH : Holds encZ w gb 0 xs.toArray := holds_of_block_i hgb (by simpa using r4)
    refine (Tryz.slices_Sort_int gb 0 cap xs w hH (Array.getElem?_eq_some_iff.1 hgb).1 (by omega)).mono ?_
    rintro e w' ⟨rfl, nn, os, rfl⟩
    refine ⟨rfl, ?_, grownBy_sorted_i _⟩
    have hl : (sortZ xs).length = xs.length := by unfold sortZ; rw [List.length_mergeSort]
    have hf := ownsRow_sorted_i (n := nn) (os := os) (ss := xs) (ts := sortZ xs) hl hbase hgb r1 r2 r3
    rw [← hl] at hf
    rw [← hl]
    exact hf

theorem sortedI_c (Bs : Nat) (A : Option Addr) (nn c : Nat) (xs : List Int) (w : World) (hsm : nn ≤ 1000000) (hBs : Blk w Bs 42 #[.slice A nn c]) (hs : IntSl w A nn xs) :
    Calls Tryz.prog 35 #[.func (.func 65) #[] #[.pointer (some ⟨Bs, 0, none⟩)]] w fun e w' => ∃ v, e = .returned v ∧ OwnI w' w.heap.size v (sortZ xs) ∧ Ext w w' := by
  have hxl : xs.length ≤ 1000000 := by rw [hs.1]; exact hsm
  go_enter Tryz.func35, Tryz.ntmps35
  go_wp2_with fail
  refine (collectI_c Bs A nn c xs _ hsm hBs hs).mono ?_
  rintro e w1 ⟨v, rfl, hv, hx⟩
  have hbk := hv.blk
  go_wp2_with fail
  refine (sortI_c _ _ v xs hv hxl).mono ?_
  rintro e w2 ⟨rfl, hv2, hg2⟩
  go_wp2_with fail
  go_ret
  exact ⟨_, rfl, hv2, hx.grown hg2 (fun k hk => (hbk k hk).1)⟩
end Go.Proofs.YtdgflniahoidmaaGreat
