/- Layer 3 (assign): a clause's literals counted by their values. -/
import Derived.Test.YtdhohoabcokdjaaAssign1
set_option maxRecDepth 100000
namespace Go.Proofs.Ytdhohoabcokdjaa
open Go.RowKit Go.Maps

/-- How many of c's literals have the value v in l. -/
def cnV (l c : List Int) (v : Int) : Int := (c.countP fun x => decide (varV x ≠ 0) && decide (valueV l x = v) : Nat)
theorem cnV_snoc (l c : List Int) (x v : Int) : cnV l (c ++ [x]) v = cnV l c v + if varV x ≠ 0 ∧ valueV l x = v then 1 else 0 := by
  unfold cnV
  rw [List.countP_append, List.countP_singleton]
  by_cases h : varV x ≠ 0 ∧ valueV l x = v
  · rw [if_pos h, if_pos (by simp [h.1, h.2])]; omega
  · rw [if_neg h, if_neg (by simpa using h)]; omega
theorem cnV_bd (l c : List Int) (v : Int) : 0 ≤ cnV l c v ∧ cnV l c v ≤ c.length := by
  unfold cnV; exact ⟨by omega, by have := List.countP_le_length (p := fun x => decide (varV x ≠ 0) && decide (valueV l x = v)) (l := c); omega⟩
theorem cnV_nil (l : List Int) (v : Int) : cnV l [] v = 0 := rfl

/-- A block of three numbers. -/
def B3 (w : World) (g : Nat) (a b c : Int) : Prop := Blk w g 116 #[.int .i64 a, .int .i64 b, .int .i64 c]

set_option maxHeartbeats 2000000 in
theorem count_c (A : Option Addr) (n c : Nat) (l : List Int) (A' : Option Addr) (n' c' : Nat) (cl : List Int) (w : World) (h : IntSl w A n l) (h' : IntSl w A' n' cl) (hsm : n ≤ 1000000000000) :
    Calls Try.prog 86 #[.slice A n c, .slice A' n' c'] w fun e w' => e = .returned (.agg #[.int .i64 (cnV l cl 1), .int .i64 (cnV l cl (-1)), .int .i64 (cnV l cl 0)]) ∧ Ext w w' := by
  have hn' := h'.len
  go_enter Try.func86, Try.ntmps86
  go_wp2_with fail
  refine (valuer_c _ _ _ _ _ (h.ext ((Ext.refl _).alloc _)) hsm).mono ?_
  rintro e w1 ⟨p, b, rfl, hp, hc, hx1⟩
  have HP := Lib.hid hp
  have HC := Lib.hid hc
  have HX1 := Lib.hid hx1
  clear hp hc hx1
  go_wp2_with fail
  go_loopw [13] (fun i wr => ∃ (k : Nat) (x y z : Int), k ≤ n' ∧ i = .int .i64 k ∧ x = cnV l (cl.take k) 1 ∧ y = cnV l (cl.take k) (-1) ∧ z = cnV l (cl.take k) 0 ∧ B3 wr w1.heap.size x y z ∧ Ext w1 wr) (fun i _ => n' - (intOf i).toNat)
  case atStart => exact ⟨0, 0, 0, 0, Nat.zero_le _, rfl, rfl, rfl, rfl, Blk.new _ _ _, (Ext.refl _).alloc _⟩
  case round =>
    obtain ⟨k, x1, x2, x3, hk, rfl, e1, e2, e3, hb, hx⟩ := hrel
    have hbd1 := cnV_bd l (cl.take k) 1
    have hbd2 := cnV_bd l (cl.take k) (-1)
    have hbd3 := cnV_bd l (cl.take k) 0
    have hbl : (cl.take k).length ≤ k := List.length_take_le _ _
    rw [← e1] at hbd1
    rw [← e2] at hbd2
    rw [← e3] at hbd3
    have E1 := Lib.hid e1
    have E2 := Lib.hid e2
    have E3 := Lib.hid e3
    have HB := Lib.hid hb
    have HX := Lib.hid hx
    have c0 := hb.cell 0
    have c1 := hb.cell 1
    have c2 := hb.cell 2
    have f0 := hb.frozen 0
    have f1 := hb.frozen 1
    have f2 := hb.frozen 2
    have b1 : 0 ≤ x1 ∧ x1 ≤ k := by omega
    have b2 : 0 ≤ x2 ∧ x2 ≤ k := by omega
    have b3 : 0 ≤ x3 ∧ x3 ≤ k := by omega
    obtain ⟨b1a, b1b⟩ := b1
    obtain ⟨b2a, b2b⟩ := b2
    obtain ⟨b3a, b3b⟩ := b3
    clear e1 e2 e3 hb hx hbd1 hbd2 hbd3 hbl
    by_cases hlt : k < n'
    · obtain ⟨ad, x, rfl, hx, hcx, hx1, hx2⟩ := (h'.ext (((Ext.refl _).alloc _).trans (HX1.out.trans HX.out))).at_ hlt
      have hT := take_succ_of hx.out
      have HT := Lib.hid hT
      clear hT
      have S1 := Lib.hid (cnV_snoc l (cl.take k) x 1)
      have S2 := Lib.hid (cnV_snoc l (cl.take k) x (-1))
      have S3 := Lib.hid (cnV_snoc l (cl.take k) x 0)
      by_cases hv : varV x = 0
      · have hvb : (varV x == 0) = true := by simpa using hv
        have HV := Lib.hid hv
        clear hv
        go_wp2_with (go_at_call 67; refine (var_c _ _).mono ?_; rintro e w' ⟨rfl, rfl⟩)
        go_roundw
        case rel => exact ⟨k + 1, x1, x2, x3, by omega, by go_num, by rw [HT.out, S1.out, if_neg (by simp [HV.out])]; simpa using E1.out, by rw [HT.out, S2.out, if_neg (by simp [HV.out])]; simpa using E2.out, by rw [HT.out, S3.out, if_neg (by simp [HV.out])]; simpa using E3.out, HB.out, HX.out⟩
        case measure => simp [intOf]; omega
      · have hvb : (varV x == 0) = false := by simpa using hv
        have HV := Lib.hid hv
        clear hv
        have hvb := valueV_bd l x
        rcases (show valueV l x = 1 ∨ valueV l x = -1 ∨ valueV l x = 0 by omega) with hval | hval | hval
        all_goals
          have HVAL := Lib.hid hval
          clear hval hvb
          go_wp2_with (first
            | (go_at_call 67; refine (var_c _ _).mono ?_; rintro e w' ⟨rfl, rfl⟩)
            | (go_at_call 104; refine (valuer1_c b _ l x p _ (HX.out.cell HP.out) (HC.out.ext HX.out) HV.out).mono ?_; rintro e w' ⟨rfl, rfl⟩; rw [HVAL.out]))
          go_roundw
          case measure => simp [intOf]; omega
        case rel => exact ⟨k + 1, x1 + 1, x2, x3, by omega, by go_num, by rw [HT.out, S1.out, if_pos ⟨HV.out, HVAL.out⟩, ← E1.out], by rw [HT.out, S2.out, if_neg (by simp [HVAL.out])]; simpa using E2.out, by rw [HT.out, S3.out, if_neg (by simp [HVAL.out])]; simpa using E3.out, HB.out.set_ 0 _, HX.out.setCell (Nat.le_refl _) _⟩
        case rel => exact ⟨k + 1, x1, x2 + 1, x3, by omega, by go_num, by rw [HT.out, S1.out, if_neg (by simp [HVAL.out])]; simpa using E1.out, by rw [HT.out, S2.out, if_pos ⟨HV.out, HVAL.out⟩, ← E2.out], by rw [HT.out, S3.out, if_neg (by simp [HVAL.out])]; simpa using E3.out, HB.out.set_ 1 _, HX.out.setCell (Nat.le_refl _) _⟩
        case rel => exact ⟨k + 1, x1, x2, x3 + 1, by omega, by go_num, by rw [HT.out, S1.out, if_neg (by simp [HVAL.out])]; simpa using E1.out, by rw [HT.out, S2.out, if_neg (by simp [HVAL.out])]; simpa using E2.out, by rw [HT.out, S3.out, if_pos ⟨HV.out, HVAL.out⟩, ← E3.out], HB.out.set_ 2 _, HX.out.setCell (Nat.le_refl _) _⟩
    · have hB0 : B3 _ w.heap.size 0 0 0 := ((Blk.new w _ _).ext HX1.out).ext HX.out
      have r0 := hB0.cell 0
      have r1 := hB0.cell 1
      have r2 := hB0.cell 2
      have rf0 := hB0.frozen 0
      have rf1 := hB0.frozen 1
      have rf2 := hB0.frozen 2
      have hne : w.heap.size ≠ w1.heap.size := by have := HX1.out.size_le; rw [World.size_alloc] at this; omega
      clear hB0
      go_wp2
      have t1 := E1.out
      have t2 := E2.out
      have t3 := E3.out
      rw [take_len_of h'.1 hlt] at t1 t2 t3
      subst t1 t2 t3
      exact bodyPost_ret (v := .agg #[.int .i64 (cnV l cl 1), .int .i64 (cnV l cl (-1)), .int .i64 (cnV l cl 0)]) (by simp [results, Try.results86, go_sem, *]) rfl ⟨rfl, ((((((Ext.refl _).alloc _).trans (HX1.out.trans HX.out)).setCell (Nat.le_refl _) _).setCell (Nat.le_refl _) _).setCell (Nat.le_refl _) _)⟩
end Go.Proofs.Ytdhohoabcokdjaa
