/- Layer 3 (assign): truths of literals, literals of truths; is all assigned? -/
import Derived.Test.YtdhohoabcokdjaaAssign5
import Derived.Test.YtdhohoabcokdjaaAppB
set_option maxRecDepth 100000
namespace Go.Proofs.Ytdhohoabcokdjaa
open Go.RowKit Go.Maps

/-- A row, the first k of it laid. -/
def fillG (f : Nat → Value) (z : Value) (n k : Nat) : Array Value := (Array.range n).map fun i => if i < k then f i else z
theorem fillG_zero (f : Nat → Value) (z : Value) (n : Nat) : fillG f z n 0 = madeCells #[z] n := by
  simp [fillG, madeCells, Nat.mod_one]
theorem fillG_at (f : Nat → Value) (z : Value) (n k j : Nat) (h : j < n) : (fillG f z n k)[j]? = some (if j < k then f j else z) := by
  simp [fillG, h]
theorem fillG_set (f : Nat → Value) (z : Value) (n k : Nat) (h : k < n) : (fillG f z n k).setIfInBounds k (f k) = fillG f z n (k + 1) := by
  apply Array.ext_getElem?
  intro j
  by_cases hj : j < n
  · rw [fillG_at f z n (k + 1) j hj, Array.getElem?_setIfInBounds]
    by_cases hk : k = j
    · subst hk; simp [fillG, h]
    · rw [if_neg hk, fillG_at f z n k j hj]
      by_cases h1 : j < k <;> by_cases h2 : j < k + 1 <;> simp [h1, h2] <;> omega
  · simp [fillG, hj]
theorem infoBool : (Try.prog.info? 4).map (fun i => (i.zero, i.size, i.bytes)) = some (some (.bool false), 1, 1) := by kernel_rfl
theorem infoInt : (Try.prog.info? 3).map (fun i => (i.zero, i.size, i.bytes)) = some (some (.int .i64 0), 1, 8) := by kernel_rfl

/-- The truths that literals tell, of the first m variables. -/
def modelT (l : List Int) (m : Nat) : List Bool := (List.range m).map fun (i : Nat) => valueV l ((i : Int) + 1) == 1
def modelV (l : List Int) (v : Int) : List Bool := if v < 0 ∨ 100000 < v then [] else modelT l v.toNat
theorem modelT_len (l : List Int) (m : Nat) : (modelT l m).length = m := by simp [modelT]
theorem modelT_succ (l : List Int) (k : Nat) : modelT l (k + 1) = modelT l k ++ [valueV l ((k : Int) + 1) == 1] := by simp [modelT, List.range_succ]
theorem varV_place {k : Nat} (h : k < 100000) : varV ((k : Int) + 1) ≠ 0 := by unfold varV; (repeat (first | omega | split))

/-- The literals of the first k truths. -/
def litsT (m : List Bool) (k : Nat) : List Int := (List.range k).map fun (i : Nat) => makeV ((i : Int) + 1) (m.getD i false)
def litsV (m : List Bool) : List Int := if 100000 < m.length then [] else litsT m m.length
theorem litsT_len (m : List Bool) (k : Nat) : (litsT m k).length = k := by simp [litsT]
theorem litsT_succ (m : List Bool) (k : Nat) : litsT m (k + 1) = litsT m k ++ [makeV ((k : Int) + 1) (m.getD k false)] := by simp [litsT, List.range_succ]
theorem makeV_bd (x : Int) (t : Bool) : -100000 ≤ makeV x t ∧ makeV x t ≤ 100000 := by unfold makeV; (repeat (first | omega | split))
theorem litsT_bd (m : List Bool) (k : Nat) : ∀ x ∈ litsT m k, -9223372036854775808 ≤ x ∧ x ≤ 9223372036854775807 := by
  intro x hx
  obtain ⟨j, _, rfl⟩ := List.mem_map.1 hx
  have := makeV_bd ((j : Int) + 1) (m.getD j false)
  omega

set_option maxHeartbeats 2000000 in
theorem from_list_c (A : Option Addr) (n c : Nat) (m : List Bool) (w : World) (h : BoolSl w A n m) :
    Calls Try.prog 46 #[.slice A n c] w (RetInts (litsV m) w) := by
  have hlen := h.1
  by_cases hv : 100000 < n
  · have HF : Hid (litsV m = []) := by unfold Hid; rw [litsV, if_pos (by omega)]
    go_enter Try.func46, Try.ntmps46
    go_wp2
    go_ret
    exact ⟨none, 0, 0, rfl, by rw [HF.out]; exact IntSl.nil w, Ext.refl w⟩
  · have HF : Hid (litsV m = litsT m n) := by unfold Hid; rw [litsV, if_neg (by omega), hlen]
    obtain ⟨i0, hi, hz0, hz1, hz2⟩ := info_parts infoInt
    have hmk := fun W => run_make_rowN (P := Try.prog) 22 3 i0 _ Try.underlying22 hi hz0 .i64 .i64 n n (Nat.le_refl _) (by rw [hz2]; omega) (by omega) W
    rw [hz1, Nat.mul_one, show (Value.int .i64 0).cells = #[Value.int .i64 0] from rfl] at hmk
    have HI := Lib.hid hi
    have HZ := Lib.hid hz0
    have HZ1 := Lib.hid hz1
    have HZ2 := Lib.hid hz2
    clear hi hz0 hz1 hz2
    go_enter Try.func46, Try.ntmps46
    go_wp2
    go_loopw [14] (fun i wr => ∃ k : Nat, k ≤ n ∧ i = .int .i64 k ∧ Blk wr w.heap.size 3 (fillG (fun j => .int .i64 (makeV ((j : Int) + 1) (m.getD j false))) (.int .i64 0) n k) ∧ Ext w wr) (fun i _ => n - (intOf i).toNat)
    case atStart =>
      refine ⟨0, Nat.zero_le _, rfl, ?_, (Ext.refl _).alloc _⟩
      rw [fillG_zero]
      exact Blk.new w 3 (madeCells #[Value.int .i64 0] n)
    case round =>
      obtain ⟨k, hk, rfl, hb, hx⟩ := hrel
      have HB := Lib.hid hb
      have HX := Lib.hid hx
      clear hb hx
      by_cases hlt : k < n
      · obtain ⟨ad, x, rfl, hx, hcx⟩ := (h.ext HX.out).at_ hlt
        have hg : m.getD k false = x := by rw [List.getD_eq_getElem?_getD, hx.out]; rfl
        have HG := Lib.hid hg
        clear hg
        have hcell := (HB.out.cell k).trans (fillG_at _ _ n k k hlt)
        have hfr := HB.out.frozen k
        simp only [Nat.lt_irrefl, if_false] at hcell
        go_wp2_with (go_at_call 79; refine (make_c _ _ _).mono ?_; rintro e w' ⟨rfl, rfl⟩)
        go_roundw
        case rel =>
          refine ⟨k + 1, by omega, by go_num, ?_, HX.out.setCell (Nat.le_refl _) _⟩
          have := HB.out.set_ k (.int .i64 (makeV ((k : Int) + 1) (m.getD k false)))
          rw [fillG_set (fun j => .int .i64 (makeV ((j : Int) + 1) (m.getD j false))) _ n k hlt, HG.out] at this
          exact this
        case measure => simp [intOf]; omega
      · go_wp2
        go_ret
        obtain rfl : k = n := by omega
        refine ⟨_, _, _, rfl, ?_, HX.out⟩
        rw [HF.out]
        refine HB.out.ints (cap := k) (litsT_len m k) (by omega) (litsT_bd m k) (fun j x hj => ?_) (Nat.le_refl _)
        have hjk : j < k := by
          have := (List.getElem?_eq_some_iff.1 hj).1
          rwa [litsT_len] at this
        rw [fillG_at _ _ _ _ _ hjk, if_pos hjk]
        simp [litsT, hjk] at hj
        simp [hj]

/-- Is all assigned? -/
def fullV (l : List Int) (v : Int) : Bool := (assignV l v == 0) && ((l.length : Int) == v)


end Go.Proofs.Ytdhohoabcokdjaa
