/- Layer 3 (assign): the reference's count; a clause's value, by the count and by the document. -/
import Derived.Test.YtdhohoabcokdjaaAssign2
set_option maxRecDepth 100000
namespace Go.Proofs.Ytdhohoabcokdjaa
open Go.RowKit Go.Maps

set_option maxHeartbeats 2000000 in
theorem rCount_c (A : Option Addr) (n c : Nat) (l : List Int) (A' : Option Addr) (n' c' : Nat) (cl : List Int) (w : World) (h : IntSl w A n l) (h' : IntSl w A' n' cl) :
    Calls Try.prog 91 #[.slice A n c, .slice A' n' c'] w fun e w' => e = .returned (.agg #[.int .i64 (cnV l cl 1), .int .i64 (cnV l cl (-1)), .int .i64 (cnV l cl 0)]) ∧ Ext w w' := by
  have hn' := h'.len
  go_enter Try.func91, Try.ntmps91
  go_wp2
  go_loopw [6] (fun i wr => ∃ (k : Nat) (x y z : Int), k ≤ n' ∧ i = .int .i64 k ∧ x = cnV l (cl.take k) 1 ∧ y = cnV l (cl.take k) (-1) ∧ z = cnV l (cl.take k) 0 ∧ B3 wr (w.heap.size + 1) x y z ∧ B3 wr w.heap.size 0 0 0 ∧ Ext w wr) (fun i _ => n' - (intOf i).toNat)
  case atStart =>
    have h0 := (Blk.new w 116 #[.int .i64 0, .int .i64 0, .int .i64 0])
    have h1 := (Blk.new (w.alloc (Obj.cells #[.int .i64 0, .int .i64 0, .int .i64 0] 116)) 116 #[.int .i64 0, .int .i64 0, .int .i64 0])
    rw [World.size_alloc] at h1
    exact ⟨0, 0, 0, 0, Nat.zero_le _, rfl, rfl, rfl, rfl, h1, h0.alloc _, ((Ext.refl _).alloc _).alloc _⟩
  case round =>
    obtain ⟨k, x1, x2, x3, hk, rfl, e1, e2, e3, hb, hb0, hx⟩ := hrel
    have hbd1 := cnV_bd l (cl.take k) 1
    have hbd2 := cnV_bd l (cl.take k) (-1)
    have hbd3 := cnV_bd l (cl.take k) 0
    have hbl : (cl.take k).length ≤ k := List.length_take_le _ _
    rw [← e1] at hbd1
    rw [← e2] at hbd2
    rw [← e3] at hbd3
    have E1 := Lib.hid e1
    have E2 := Lib.hid e2
    have E3 := Lib.hid e3
    have HB := Lib.hid hb
    have HB0 := Lib.hid hb0
    have HX := Lib.hid hx
    have c0 := hb.cell 0
    have c1 := hb.cell 1
    have c2 := hb.cell 2
    have f0 := hb.frozen 0
    have f1 := hb.frozen 1
    have f2 := hb.frozen 2
    have b1 : 0 ≤ x1 ∧ x1 ≤ k := by omega
    have b2 : 0 ≤ x2 ∧ x2 ≤ k := by omega
    have b3 : 0 ≤ x3 ∧ x3 ≤ k := by omega
    obtain ⟨b1a, b1b⟩ := b1
    obtain ⟨b2a, b2b⟩ := b2
    obtain ⟨b3a, b3b⟩ := b3
    clear e1 e2 e3 hb hb0 hx hbd1 hbd2 hbd3 hbl
    by_cases hlt : k < n'
    · obtain ⟨ad, x, rfl, hx, hcx, hx1, hx2⟩ := (h'.ext HX.out).at_ hlt
      have hT := take_succ_of hx.out
      have HT := Lib.hid hT
      clear hT
      have S1 := Lib.hid (cnV_snoc l (cl.take k) x 1)
      have S2 := Lib.hid (cnV_snoc l (cl.take k) x (-1))
      have S3 := Lib.hid (cnV_snoc l (cl.take k) x 0)
      have hl := Lib.hid (h.ext HX.out)
      have hvi := varV_index x
      have hvz : varV x = 0 → valueV l x = 0 := fun e => by rw [valueV, if_pos e]
      have hvb := valueV_bd l x
      rcases (show (valueV l x = 1 ∧ varV x ≠ 0) ∨ (valueV l x = -1 ∧ varV x ≠ 0) ∨ (valueV l x = 0 ∧ varV x ≠ 0 ∧ 0 ≤ indexV x) ∨ (valueV l x = 0 ∧ varV x = 0 ∧ ¬ 0 ≤ indexV x) by omega) with ⟨hval, hv⟩ | ⟨hval, hv⟩ | ⟨hval, hv, hi⟩ | ⟨hval, hv, hi⟩
      all_goals
        have HV := Lib.hid hv
        have HVAL := Lib.hid hval
        clear hval hv hvb hvz hvi
        go_wp2_with (first
          | (go_at_call 28; refine (rIndex_c _ _).mono ?_; rintro e w' ⟨rfl, rfl⟩)
          | (go_at_call 90; refine (rValue_c _ _ _ l x _ hl.out).mono ?_; rintro e w' ⟨rfl, rfl⟩; rw [HVAL.out]))
        go_roundw
        case measure => simp [intOf]; omega
      case rel => exact ⟨k + 1, x1 + 1, x2, x3, by omega, by go_num, by rw [HT.out, S1.out, if_pos ⟨HV.out, HVAL.out⟩, ← E1.out], by rw [HT.out, S2.out, if_neg (by simp [HVAL.out])]; simpa using E2.out, by rw [HT.out, S3.out, if_neg (by simp [HVAL.out])]; simpa using E3.out, HB.out.set_ 0 _, HB0.out.far (by simp) _, HX.out.setCell (by simp) _⟩
      case rel => exact ⟨k + 1, x1, x2 + 1, x3, by omega, by go_num, by rw [HT.out, S1.out, if_neg (by simp [HVAL.out])]; simpa using E1.out, by rw [HT.out, S2.out, if_pos ⟨HV.out, HVAL.out⟩, ← E2.out], by rw [HT.out, S3.out, if_neg (by simp [HVAL.out])]; simpa using E3.out, HB.out.set_ 1 _, HB0.out.far (by simp) _, HX.out.setCell (by simp) _⟩
      case rel => exact ⟨k + 1, x1, x2, x3 + 1, by omega, by go_num, by rw [HT.out, S1.out, if_neg (by simp [HVAL.out])]; simpa using E1.out, by rw [HT.out, S2.out, if_neg (by simp [HVAL.out])]; simpa using E2.out, by rw [HT.out, S3.out, if_pos ⟨HV.out, HVAL.out⟩, ← E3.out], HB.out.set_ 2 _, HB0.out.far (by simp) _, HX.out.setCell (by simp) _⟩
      case rel => exact ⟨k + 1, x1, x2, x3, by omega, by go_num, by rw [HT.out, S1.out, if_neg (by simp [HV.out])]; simpa using E1.out, by rw [HT.out, S2.out, if_neg (by simp [HV.out])]; simpa using E2.out, by rw [HT.out, S3.out, if_neg (by simp [HV.out])]; simpa using E3.out, HB.out, HB0.out, HX.out⟩
    · have r0 := HB0.out.cell 0
      have r1 := HB0.out.cell 1
      have r2 := HB0.out.cell 2
      have rf0 := HB0.out.frozen 0
      have rf1 := HB0.out.frozen 1
      have rf2 := HB0.out.frozen 2
      go_wp2
      have t1 := E1.out
      have t2 := E2.out
      have t3 := E3.out
      rw [take_len_of h'.1 hlt] at t1 t2 t3
      subst t1 t2 t3
      exact bodyPost_ret (v := .agg #[.int .i64 (cnV l cl 1), .int .i64 (cnV l cl (-1)), .int .i64 (cnV l cl 0)]) (by simp [results, Try.results91, go_sem, *]) rfl ⟨rfl, (((HX.out.setCell (Nat.le_refl _) _).setCell (Nat.le_refl _) _).setCell (Nat.le_refl _) _)⟩

/-- A clause's value. -/
def clauseV (l c : List Int) : Int := if 0 < cnV l c 1 then 1 else if 0 < cnV l c 0 then 0 else -1
theorem clauseV_bd (l c : List Int) : -1 ≤ clauseV l c ∧ clauseV l c ≤ 1 := by unfold clauseV; (repeat (first | omega | split))
theorem clauseV_nil (l : List Int) : clauseV l [] = -1 := by rw [clauseV, cnV_nil, cnV_nil]; simp
theorem clauseV_skip (l c : List Int) {x : Int} (hv : varV x = 0) : clauseV l (c ++ [x]) = clauseV l c := by
  unfold clauseV; rw [cnV_snoc, cnV_snoc]; simp [hv]
theorem clauseV_up (l c : List Int) {x : Int} (hv : varV x ≠ 0) (hlt : clauseV l c < valueV l x) : clauseV l (c ++ [x]) = valueV l x := by
  have hb := valueV_bd l x
  have h1 := (cnV_bd l c 1).1
  have h2 := (cnV_bd l c 0).1
  have s1 := cnV_snoc l c x 1
  have s2 := cnV_snoc l c x 0
  unfold clauseV at hlt ⊢
  rw [s1, s2]
  rcases (show valueV l x = 1 ∨ valueV l x = -1 ∨ valueV l x = 0 by omega) with e | e | e <;> rw [e] at hlt ⊢ <;> simp only [hv, ne_eq, not_false_eq_true, true_and, if_true] <;> simp <;> (revert hlt; (repeat (first | omega | split)))
theorem clauseV_stay (l c : List Int) {x : Int} (hv : varV x ≠ 0) (hlt : ¬ clauseV l c < valueV l x) : clauseV l (c ++ [x]) = clauseV l c := by
  have hb := valueV_bd l x
  have h1 := (cnV_bd l c 1).1
  have h2 := (cnV_bd l c 0).1
  have s1 := cnV_snoc l c x 1
  have s2 := cnV_snoc l c x 0
  unfold clauseV at hlt ⊢
  rw [s1, s2]
  rcases (show valueV l x = 1 ∨ valueV l x = -1 ∨ valueV l x = 0 by omega) with e | e | e <;> rw [e] at hlt ⊢ <;> simp only [hv, ne_eq, not_false_eq_true, true_and, if_true] <;> simp <;> (revert hlt; (repeat (first | omega | split)))

theorem clause_c (A : Option Addr) (n c : Nat) (l : List Int) (A' : Option Addr) (n' c' : Nat) (cl : List Int) (w : World) (h : IntSl w A n l) (h' : IntSl w A' n' cl) (hsm : n ≤ 1000000000000) :
    Calls Try.prog 53 #[.slice A n c, .slice A' n' c'] w fun e w' => e = .returned (.int .i64 (clauseV l cl)) ∧ Ext w w' := by
  have b1 := (cnV_bd l cl 1).1
  have b2 := (cnV_bd l cl (-1)).1
  have b3 := (cnV_bd l cl 0).1
  have hcv : clauseV l cl = if 0 < cnV l cl 1 then 1 else if 0 < cnV l cl 0 then 0 else -1 := rfl
  have HCV := Lib.hid hcv
  clear hcv
  by_cases h1 : 0 < cnV l cl 1 <;> by_cases h0 : 0 < cnV l cl 0
  all_goals
    go_enter Try.func53, Try.ntmps53
    go_wp2_with (go_at_call 86; refine (count_c _ _ _ l _ _ _ cl _ h h' hsm).mono ?_; rintro e w1 ⟨rfl, hx1⟩; have HX1 := Lib.hid hx1; clear hx1)
    go_ret
    exact ⟨ret_int (by rw [HCV.out]; (repeat (first | omega | split))), by repeat (first | exact HX1.out | apply Ext.alloc | apply Ext.setCell)⟩

set_option maxHeartbeats 1000000 in
theorem rClause_c (A : Option Addr) (n c : Nat) (l : List Int) (A' : Option Addr) (n' c' : Nat) (cl : List Int) (w : World) (h : IntSl w A n l) (h' : IntSl w A' n' cl) :
    Calls Try.prog 55 #[.slice A n c, .slice A' n' c'] w fun e w' => e = .returned (.int .i64 (clauseV l cl)) ∧ w = w' := by
  have hn' := h'.len
  go_enter Try.func55, Try.ntmps55
  go_wp2
  go_loop [5, 6] (fun b i => ∃ (k : Nat) (y : Int), k ≤ n' ∧ i = .int .i64 k ∧ b = .int .i64 y ∧ y = clauseV l (cl.take k)) (fun b i => n' - (intOf i).toNat)
  case atStart => exact ⟨0, -1, Nat.zero_le _, rfl, rfl, (clauseV_nil l).symm⟩
  case round =>
    obtain ⟨k, y, hk, rfl, rfl, hy⟩ := hrel
    have hyb := clauseV_bd l (cl.take k)
    rw [← hy] at hyb
    obtain ⟨hyb1, hyb2⟩ := hyb
    have HY := Lib.hid hy
    clear hy
    by_cases hlt : k < n'
    · obtain ⟨ad, x, rfl, hx, hcx, hx1, hx2⟩ := h'.at_ hlt
      have hT := take_succ_of hx.out
      have HT := Lib.hid hT
      clear hT
      have hvi := varV_index x
      obtain ⟨hvb1, hvb2⟩ := valueV_bd l x
      by_cases hv : varV x = 0
      · have hi : ¬ 0 ≤ indexV x := by omega
        have HV := Lib.hid hv
        clear hv hvi
        go_wp2_with (first
          | (go_at_call 28; refine (rIndex_c _ _).mono ?_; rintro e w' ⟨rfl, rfl⟩)
          | (go_at_call 90; refine (rValue_c _ _ _ l x _ h).mono ?_; rintro e w' ⟨rfl, rfl⟩))
        go_round
        case rel => exact ⟨k + 1, _, by omega, by go_num, rfl, by rw [HT.out, clauseV_skip l _ HV.out]; exact HY.out⟩
        case measure => simp [intOf]; omega
      · have hi : 0 ≤ indexV x := by omega
        have HV := Lib.hid hv
        clear hv hvi
        by_cases hgt : y < valueV l x
        · go_wp2_with (first
            | (go_at_call 28; refine (rIndex_c _ _).mono ?_; rintro e w' ⟨rfl, rfl⟩)
            | (go_at_call 90; refine (rValue_c _ _ _ l x _ h).mono ?_; rintro e w' ⟨rfl, rfl⟩))
          go_round
          case rel => exact ⟨k + 1, _, by omega, by go_num, rfl, by rw [HT.out, clauseV_up l _ HV.out (by rw [← HY.out]; exact hgt)]⟩
          case measure => simp [intOf]; omega
        · go_wp2_with (first
            | (go_at_call 28; refine (rIndex_c _ _).mono ?_; rintro e w' ⟨rfl, rfl⟩)
            | (go_at_call 90; refine (rValue_c _ _ _ l x _ h).mono ?_; rintro e w' ⟨rfl, rfl⟩))
          go_round
          case rel => exact ⟨k + 1, _, by omega, by go_num, rfl, by rw [HT.out, clauseV_stay l _ HV.out (by rw [← HY.out]; omega)]; exact HY.out⟩
          case measure => simp [intOf]; omega
    · go_wp2
      go_ret
      exact ⟨ret_int (by have := HY.out; rw [take_len_of h'.1 hlt] at this; exact this), rfl⟩
end Go.Proofs.Ytdhohoabcokdjaa
