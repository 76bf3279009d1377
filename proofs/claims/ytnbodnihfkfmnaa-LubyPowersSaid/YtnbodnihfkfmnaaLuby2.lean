/- Layer 18: the pair that steps; First, Sum, Next and the reference's. -/
import Derived.Test.YtnbodnihfkfmnaaLuby
import Derived.OneCell
namespace Go.Proofs.Ytnbodnihfkfmnaa
open Go.RowKit

theorem bits_low (u : Nat) (h : 1 ≤ u) (h2 : u < 2 ^ 62) : bits .and .i64 (u : Int) (-(u : Int)) = (lowN 64 u : Nat) := by
  have hle : lowN 64 u ≤ u := Nat.and_le_left
  show IntKind.i64.wrap ((BitVec.ofInt 64 (u : Int) &&& BitVec.ofInt 64 (-(u : Int))).toNat : Int) = _
  rw [BitVec.toNat_and, ofInt_i64 u (by omega), BitVec.toNat_ofInt]
  have e : (-(u : Int) % ((2 ^ 64 : Nat) : Int)).toNat = 2 ^ 64 - u := by omega
  rw [e]
  show IntKind.i64.wrap ((lowN 64 u : Nat) : Int) = _
  rw [IntKind.wrap_i64]
  omega

/-- w' is w but for the blocks a and b, and for what is new. -/
structure But2 (a b : Nat) (w w' : World) : Prop where
  os : w'.os = w.os
  tape : w'.tape = w.tape
  output : w'.output = w.output
  size : w.heap.size ≤ w'.heap.size
  block : ∀ k, k < w.heap.size → k ≠ a → k ≠ b → w'.heap[k]? = w.heap[k]?

/-- The pair lies in two blocks of one cell. -/
def Pair (w : World) (gu gv n : Nat) : Prop :=
  w.heap[gu]? = some (.cells #[.int .i64 ((kst n).1 : Nat)] 3 (0, 0)) ∧ w.heap[gv]? = some (.cells #[.int .i64 ((kst n).2 : Nat)] 3 (0, 0)) ∧ gu ≠ gv

theorem Pair.lt {w : World} {gu gv n : Nat} (h : Pair w gu gv n) : gu < w.heap.size ∧ gv < w.heap.size := ⟨lt_of_block h.1, lt_of_block h.2.1⟩
theorem Pair.keep {w w' : World} {gu gv n : Nat} (h : Pair w gu gv n) (hu : w'.heap[gu]? = w.heap[gu]?) (hv : w'.heap[gv]? = w.heap[gv]?) : Pair w' gu gv n := ⟨hu.trans h.1, hv.trans h.2.1, h.2.2⟩
theorem But2.below {a b B : Nat} {w w' : World} (h : But2 a b w w') (ha : B ≤ a) (hb : B ≤ b) (hs : B ≤ w.heap.size) : Below B w w' := ⟨h.os, h.tape, h.output, h.size, fun k hk => h.block k (by omega) (by omega) (by omega)⟩

theorem But2.refl (a b : Nat) (w : World) : But2 a b w w := ⟨rfl, rfl, rfl, Nat.le_refl _, fun _ _ _ _ => rfl⟩
theorem But2.setA {a b : Nat} {w w' : World} (h : But2 a b w w') (u : Value) : But2 a b w (w'.setCell ⟨a, 0, none⟩ u) :=
  ⟨h.os, h.tape, h.output, by simpa [World.setCell] using h.size, fun k hk h1 h2 => (Below.heap_setCell _ _ _ _ h1).trans (h.block k hk h1 h2)⟩
theorem But2.setB {a b : Nat} {w w' : World} (h : But2 a b w w') (u : Value) : But2 a b w (w'.setCell ⟨b, 0, none⟩ u) :=
  ⟨h.os, h.tape, h.output, by simpa [World.setCell] using h.size, fun k hk h1 h2 => (Below.heap_setCell _ _ _ _ h2).trans (h.block k hk h1 h2)⟩

set_option maxHeartbeats 1000000 in
theorem step_c (n gu gv : Nat) (w : World) (h : Pair w gu gv n) (hn : n < 1000000000) :
    Calls Try.prog 46 #[.pointer (some ⟨gv, 0, none⟩), .pointer (some ⟨gu, 0, none⟩)] w fun e w' => e = .returned (.int .i64 (lubyN (n + 1) : Nat)) ∧ Pair w' gu gv (n + 1) ∧ But2 gu gv w w' := by
  obtain ⟨hu, hv, hne⟩ := h
  have cu := cell_of_one hu
  have cv := cell_of_one hv
  have fu := free_of_one hu
  have fv := free_of_one hv
  have ku := kst_u n
  have kv := kst_v n (by omega)
  have kb := bits_low (kst n).1 ku.1 (by omega)
  have HU := Lib.hid hu
  have HV := Lib.hid hv
  clear hu hv
  by_cases hl : lowN 64 (kst n).1 = (kst n).2
  · have HL := Lib.hid hl
    have hb : (((lowN 64 (kst n).1 : Nat) : Int) == (((kst n).2 : Nat) : Int)) = true := by rw [hl]; simp
    clear hl
    go_enter Try.func46, Try.ntmps46
    go_wp2
    go_ret
    have e1 : kst (n + 1) = ((kst n).1 + 1, 1) := by show kstep _ = _; rw [kstep, if_pos HL.out]
    refine ⟨ret_int (by simp [lubyN]), ⟨?_, ?_, hne⟩, ((But2.refl _ _ _).setA _).setB _⟩
    · rw [Below.heap_setCell _ _ _ _ hne, one_setCell HU.out, e1]; simp
    · rw [one_setCell ((Below.heap_setCell _ _ _ _ (Ne.symm hne)).trans HV.out), e1]; simp
  · have HL := Lib.hid hl
    have hb : (((lowN 64 (kst n).1 : Nat) : Int) == (((kst n).2 : Nat) : Int)) = false := by rw [beq_eq_false_iff_ne]; omega
    clear hl
    go_enter Try.func46, Try.ntmps46
    go_wp2
    go_ret
    have e1 : kst (n + 1) = ((kst n).1, 2 * (kst n).2) := by show kstep _ = _; rw [kstep, if_neg HL.out]
    refine ⟨ret_int (by simp [lubyN]), ⟨?_, ?_, hne⟩, (But2.refl _ _ _).setB _⟩
    · rw [Below.heap_setCell _ _ _ _ hne, HU.out, e1]
    · rw [one_setCell HV.out, e1]; simp; omega

theorem stepper_c (w : World) : Calls Try.prog 42 #[] w fun e w' =>
    e = .returned (.func (.func 46) #[] #[.pointer (some ⟨w.heap.size + 1, 0, none⟩), .pointer (some ⟨w.heap.size, 0, none⟩)]) ∧ Pair w' w.heap.size (w.heap.size + 1) 0 ∧ Ext w w' ∧ w'.heap.size = w.heap.size + 2 := by
  go_enter Try.func42, Try.ntmps42
  go_wp2
  go_ret
  refine ⟨rfl, ⟨?_, ?_, by omega⟩, ((Ext.refl _).alloc _).alloc _, by simp⟩
  · exact (Below.heap_alloc _ _ _ (by simp)).trans (heap_alloc_new w _)
  · have := heap_alloc_new (w.alloc (Obj.cells #[Value.int IntKind.i64 1] 3)) (Obj.cells #[Value.int IntKind.i64 1] 3)
    rw [World.size_alloc] at this
    exact this

/-- The first n numbers. -/
def lubyL (n : Int) : List Int := if n < 1 ∨ 100000 < n then [] else (List.range n.toNat).map fun i => (lubyN (i + 1) : Int)

theorem infoInt : (Try.prog.info? 3).map (fun i => (i.zero, i.size, i.bytes)) = some (some (.int .i64 0), 1, 8) := by kernel_rfl

/-- A row of numbers, the first k of them laid. -/
def fillV (n k : Nat) : Array Value := (Array.range n).map fun i => if i < k then Value.int .i64 (lubyN (i + 1) : Nat) else Value.int .i64 0
theorem fillV_zero (n : Nat) : fillV n 0 = madeCells (Value.int .i64 0).cells (n * 1) := by
  simp [fillV, madeCells, Value.cells, Nat.mod_one]
theorem fillV_at (n k j : Nat) (h : j < n) : (fillV n k)[j]? = some (if j < k then Value.int .i64 (lubyN (j + 1) : Nat) else Value.int .i64 0) := by
  simp [fillV, h]
theorem fillV_set (n k : Nat) (h : k < n) : (fillV n k).setIfInBounds k (.int .i64 (lubyN (k + 1) : Nat)) = fillV n (k + 1) := by
  apply Array.ext_getElem?
  intro j
  by_cases hj : j < n
  · rw [fillV_at n (k + 1) j hj, Array.getElem?_setIfInBounds]
    by_cases hk : k = j
    · subst hk; simp [fillV, h]
    · rw [if_neg hk, fillV_at n k j hj]
      by_cases h1 : j < k <;> by_cases h2 : j < k + 1 <;> simp [h1, h2] <;> omega
  · simp [fillV, hj]

set_option maxHeartbeats 1000000 in
theorem lubyFirst_c (n : Int) (w : World) : Calls Try.prog 31 #[.int .i64 n] w (RetInts (lubyL n) w) := by
  by_cases h : n < 1 ∨ 100000 < n
  · have HF : Hid (lubyL n = []) := by unfold Hid; rw [lubyL, if_pos h]
    go_enter Try.func31, Try.ntmps31
    go_wp2
    all_goals
      go_ret
      exact ⟨none, 0, 0, rfl, by rw [HF.out]; exact IntSl.nil w, Ext.refl w⟩
  · obtain ⟨m, rfl⟩ := Int.eq_ofNat_of_zero_le (show 0 ≤ n by omega)
    have HF : Hid (lubyL m = (List.range m).map fun i => (lubyN (i + 1) : Int)) := by unfold Hid; rw [lubyL, if_neg h, Int.toNat_natCast]
    have h1 : 1 ≤ m := by omega
    have h2 : m ≤ 100000 := by omega
    clear h
    obtain ⟨i0, hi, hz0, hz1, hz2⟩ := info_parts infoInt
    have hmk := fun W => run_make_rowN (P := Try.prog) 33 3 i0 _ Try.underlying33 hi hz0 .i64 .i64 m m (Nat.le_refl _) (by rw [hz2]; omega) (by omega) W
    rw [hz1] at hmk
    have HI := Lib.hid hi
    have HZ := Lib.hid hz0
    have HZ1 := Lib.hid hz1
    have HZ2 := Lib.hid hz2
    clear hi hz0 hz1 hz2
    go_enter Try.func31, Try.ntmps31
    go_wp2_with (go_at_call 42; refine (stepper_c _).mono ?_; rintro e w1 ⟨rfl, hp, hx, hs⟩; have HP := Lib.hid hp; have HX := Lib.hid hx; have HS := Lib.hid hs; clear hp hx hs)
    go_loopw [17] (fun i wr => ∃ k : Nat, k ≤ m ∧ i = .int .i64 k ∧ Pair wr w.heap.size (w.heap.size + 1) k ∧ Blk wr w1.heap.size 3 (fillV m k) ∧ Ext w wr) (fun i _ => m - (intOf i).toNat)
    case atStart =>
      refine ⟨0, Nat.zero_le _, rfl, ?_, ?_, HX.out.alloc _⟩
      · have hl := HP.out.lt
        exact HP.out.keep (Below.heap_alloc _ _ _ hl.1) (Below.heap_alloc _ _ _ hl.2)
      · have hb := Blk.new w1 3 (madeCells #[Value.int IntKind.i64 0] m)
        rw [fillV_zero, Nat.mul_one]
        exact hb
    case round =>
      obtain ⟨k, hk, rfl, hp, hb, hx⟩ := hrel
      have hs1 : w.heap.size + 1 < w1.heap.size := by have := HS.out; omega
      have hl := hp.lt
      have HP1 := Lib.hid hp
      have HB1 := Lib.hid hb
      have HX1 := Lib.hid hx
      clear hp hb hx
      have hgo : w1.heap.size < wr.heap.size := HB1.out.lt
      by_cases hlt : k < m
      · go_wp2_with (go_at_call 46; refine (step_c k _ _ _ HP1.out (by omega)).mono ?_; rintro e w2 ⟨rfl, hp2, hbut⟩; have hb2 := HB1.out.keep (hbut.block _ hgo (by omega) (by omega)); have hcell := (hb2.cell k).trans (fillV_at m k k hlt); have hfr := hb2.frozen k; simp only [Nat.lt_irrefl, if_false] at hcell; have HP2 := Lib.hid hp2; have HBUT := Lib.hid hbut; have HB2 := Lib.hid hb2; clear hp2 hbut hb2)
        go_roundw
        case rel =>
          have hl2 := HP2.out.lt
          refine ⟨k + 1, by omega, by go_num, ?_, ?_, ?_⟩
          · exact HP2.out.keep (Below.heap_setCell _ _ _ _ (by simp; omega)) (Below.heap_setCell _ _ _ _ (by simp; omega))
          · have := HB2.out.set_ k (.int .i64 (lubyN (k + 1) : Nat))
            rw [fillV_set m k hlt] at this
            exact this
          · exact Below.setCell (Below.trans HX1.out (HBUT.out.below (B := w.heap.size) (Nat.le_refl _) (by omega) (by omega))) (by simp; omega) _
        case measure => simp [intOf]; omega
      · go_wp2
        go_ret
        obtain rfl : k = m := by omega
        refine ⟨_, _, _, rfl, ?_, HX1.out⟩
        rw [HF.out]
        refine HB1.out.ints (cap := k) (by simp) (by omega) ?_ ?_ (Nat.le_refl _)
        · intro x hx
          obtain ⟨j, hj, rfl⟩ := List.mem_map.1 hx
          have hj' := List.mem_range.1 hj
          have := lubyN_bd (j + 1) (by omega) (by omega)
          omega
        · intro j x hj
          have hjk : j < k := by
            have := (List.getElem?_eq_some_iff.1 hj).1
            simpa using this
          rw [fillV_at k k j hjk, if_pos hjk]
          simp [hjk] at hj
          subst hj
          rfl
end Go.Proofs.Ytnbodnihfkfmnaa
