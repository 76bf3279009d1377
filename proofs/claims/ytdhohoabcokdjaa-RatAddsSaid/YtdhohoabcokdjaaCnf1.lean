/- Layer 4 (cnf): does a formula hold; its value. And the reference's. -/
import Derived.Test.YtdhohoabcokdjaaUnits1
import Derived.Test.YtdhohoabcokdjaaFirst
import Derived.Laws.EntriesVeiled
set_option maxRecDepth 100000
namespace Go.Proofs.Ytdhohoabcokdjaa
open Go.RowKit

theorem enters_truths : Enters 101 := by
  intro args w
  go_simp

theorem enters_first : Enters 76 := by
  intro args w
  go_simp

theorem side_pos {x : Int} (h : x ≤ 100000) : sideV x = decide (0 < x) := by unfold sideV; rw [decide_eq_true h, Bool.and_true]

set_option maxHeartbeats 1000000 in
theorem truths1_c (x : Int) (q : Addr) (A : Option Addr) (n c : Nat) (m : List Bool) (w : World) (hq : w.cell? q = some (.slice A n c)) (h : BoolSl w A n m) :
    Calls Try.prog 101 #[.int .i64 x, .pointer (some q)] w fun e w' => e = .returned (.bool (litHolds m x)) ∧ w = w' := by
  have hn := h.len
  have hlen := h.1
  have hb : 0 ≤ varV x ∧ varV x ≤ 100000 := varV_bd x
  obtain ⟨j, hj⟩ := Int.eq_ofNat_of_zero_le hb.1
  have hjb : j ≤ 100000 := by omega
  have HJ := Lib.hid hj
  by_cases hv : j = 0
  · subst hv
    have HL : Hid (litHolds m x = false) := by unfold Hid; rw [litHolds, HJ.out]; rfl
    clear hj hb
    go_enter Try.func101, Try.ntmps101
    go_wp2_with (go_at_call 67; refine (var_c _ _).mono ?_; rintro e w' ⟨rfl, rfl⟩; rw [HJ.out])
    go_ret
    exact ⟨ret_bool HL.out.symm, rfl⟩
  · obtain ⟨_, _, hx5⟩ := varV_pos (l := x) (by omega)
    obtain ⟨i, rfl⟩ : ∃ i, j = i + 1 := ⟨j - 1, by omega⟩
    clear hv hj hb
    have hpos : (0 : Int) < ((i + 1 : Nat) : Int) := by omega
    have HL : Hid (litHolds m x = ((decide (i < n) && m.getD i false) == decide (0 < x))) := by
      unfold Hid; rw [litHolds, truthV, HJ.out, hlen, side_pos hx5]
      have e1 : decide (((i + 1 : Nat) : Int) ≠ 0) = true := by rw [decide_eq_true_eq]; omega
      have e2 : decide (((i + 1 : Nat) : Int) ≤ (n : Int)) = decide (i < n) := by rw [decide_eq_decide]; omega
      have e3 : (((i + 1 : Nat) : Int) - 1).toNat = i := by omega
      rw [e1, e2, e3, Bool.true_and]
    clear hlen
    by_cases hle : i < n
    · obtain ⟨ad', y, rfl, hy, hcy⟩ := h.at_ hle
      have hle2 : (i : Int) < n := by omega
      have hg : m.getD i false = y := by rw [List.getD_eq_getElem?_getD, hy.out]; rfl
      rw [hg, show decide (i < n) = true from by simp [hle], Bool.true_and] at HL
      clear hg
      by_cases hx0 : 0 < x
      all_goals
        go_enter Try.func101, Try.ntmps101
        go_wp2_with (go_at_call 67; refine (var_c _ _).mono ?_; rintro e w' ⟨rfl, rfl⟩; rw [HJ.out])
        go_ret
        exact ⟨ret_bool (by first | (rw [HL.out]; done) | (rw [HL.out]; simp [hx0]; done) | (rw [HL.out]; simp [hx0]; omega)), rfl⟩
    · rw [show decide (i < n) = false from by simp [hle], Bool.false_and] at HL
      have hle2 : ¬ ((i : Int) < n) := by omega
      by_cases hx0 : 0 < x
      all_goals
        go_enter Try.func101, Try.ntmps101
        go_wp2_with (go_at_call 67; refine (var_c _ _).mono ?_; rintro e w' ⟨rfl, rfl⟩; rw [HJ.out])
        go_ret
        exact ⟨ret_bool (by first | (rw [HL.out]; done) | (rw [HL.out]; simp [hx0]; done) | (rw [HL.out]; simp [hx0]; omega)), rfl⟩

theorem truths_c (A : Option Addr) (n c : Nat) (w : World) :
    Calls Try.prog 74 #[.slice A n c] w fun e w' => e = .returned (.func (.func 101) #[] #[.pointer (some ⟨w.heap.size, 0, none⟩)]) ∧ w' = w.alloc (.cells #[.slice A n c] 45) := by
  go_enter Try.func74, Try.ntmps74
  go_wp2
  go_ret
  exact ⟨rfl, rfl⟩

theorem first1_c (q p : Addr) (A : Option Addr) (n c : Nat) (m : List Bool) (A' : Option Addr) (n' c' : Nat) (cl : List Int) (w : World) (hq : w.cell? q = some (.func (.func 101) #[] #[.pointer (some p)])) (hp : w.cell? p = some (.slice A n c)) (h : BoolSl w A n m) (h' : IntSl w A' n' cl) :
    Calls Try.prog 76 #[.slice A' n' c', .pointer (some q)] w fun e w' => e = .returned (.bool (!holdsV cl m)) ∧ w = w' := by
  go_enter Try.func76, Try.ntmps76
  go_wp2_with fail
  refine (containsFunc_c _ _ _ cl (litHolds m) _ _ _ h' enters_truths ?_).mono ?_
  · intro x _
    exact truths1_c x p A n c m w hp h
  rintro e w' ⟨rfl, rfl⟩
  go_wp2_with fail
  go_ret
  exact ⟨rfl, rfl⟩

set_option maxHeartbeats 1000000 in
theorem cFirst_c (v : Int) (A : Option Addr) (n c : Nat) (L : List (List Int)) (A' : Option Addr) (n' c' : Nat) (m : List Bool) (w : World) (h : RowsSl w A n L) (h' : BoolSl w A' n' m) :
    Calls Try.prog 41 #[.agg #[.int .i64 v, .slice A n c], .slice A' n' c'] w fun e w' => e = .returned (.int .i64 (firstV L m)) ∧ Ext w w' := by
  go_enter Try.func41, Try.ntmps41
  go_wp2_with fail
  refine (truths_c _ _ _ _).mono ?_
  rintro e w1 ⟨rfl, rfl⟩
  go_wp2_with fail
  have hq := cell_one ((w.alloc (Obj.cells #[.int .i64 v, .slice A n c] 48)).alloc (Obj.cells #[.slice A' n' c'] 45)) (.func (.func 101) #[] #[.pointer (some ⟨w.heap.size + 1, 0, none⟩)]) 98
  have hp := ((Ext.refl _).alloc (Obj.cells #[.func (.func 101) #[] #[.pointer (some ⟨w.heap.size + 1, 0, none⟩)]] 98)).cell (cell_one (w.alloc (Obj.cells #[.int .i64 v, .slice A n c] 48)) (.slice A' n' c') 45)
  simp only [World.size_alloc] at hq hp
  refine (idxRows_c _ _ _ L (fun cl => !holdsV cl m) _ _ _ (h.ext (by (repeat (first | with_reducible exact Ext.refl _ | with_reducible apply Ext.alloc | with_reducible apply Ext.drew | with_reducible apply Ext.drewN | (apply Ext.trans'; assumption))))) enters_first ?_).mono ?_
  · intro A1 n1 c1 xs hxs
    exact first1_c _ _ _ _ _ m _ _ _ xs _ hq hp (h'.ext (by (repeat (first | with_reducible exact Ext.refl _ | with_reducible apply Ext.alloc | with_reducible apply Ext.drew | with_reducible apply Ext.drewN | (apply Ext.trans'; assumption))))) hxs
  rintro e w' ⟨rfl, rfl⟩
  go_wp2_with fail
  go_ret
  exact ⟨rfl, by (repeat (first | with_reducible exact Ext.refl _ | with_reducible apply Ext.alloc | with_reducible apply Ext.drew | with_reducible apply Ext.drewN | (apply Ext.trans'; assumption)))⟩

def holdsF (v : Int) (L : List (List Int)) (m : List Bool) : Bool := decide ((m.length : Int) = v) && decide (firstV L m < 0)
theorem firstV_cases (L : List (List Int)) (m : List Bool) : firstV L m = -1 ∨ 0 ≤ firstV L m := by have := (idxP_bd (fun c => !holdsV c m) L).1; unfold firstV; omega

theorem cHolds_c (v : Int) (A : Option Addr) (n c : Nat) (L : List (List Int)) (A' : Option Addr) (n' c' : Nat) (m : List Bool) (w : World) (h : RowsSl w A n L) (h' : BoolSl w A' n' m) :
    Calls Try.prog 38 #[.agg #[.int .i64 v, .slice A n c], .slice A' n' c'] w fun e w' => e = .returned (.bool (holdsF v L m)) ∧ Ext w w' := by
  have hlen := h'.1
  by_cases hv : (n' : Int) = v
  · have HR : Hid (holdsF v L m = decide (firstV L m < 0)) := by unfold Hid; rw [holdsF, hlen, decide_eq_true hv, Bool.true_and]
    subst hv
    clear hlen
    go_enter Try.func38, Try.ntmps38
    go_wp2_with fail
    refine (cFirst_c _ _ _ _ L _ _ _ m _ (h.ext (by (repeat (first | with_reducible exact Ext.refl _ | with_reducible apply Ext.alloc | with_reducible apply Ext.drew | with_reducible apply Ext.drewN | (apply Ext.trans'; assumption))))) (h'.ext (by (repeat (first | with_reducible exact Ext.refl _ | with_reducible apply Ext.alloc | with_reducible apply Ext.drew | with_reducible apply Ext.drewN | (apply Ext.trans'; assumption)))))).mono ?_
    rintro e w1 ⟨rfl, hx⟩
    go_wp2_with fail
    go_ret
    exact ⟨ret_bool HR.out.symm, by (repeat (first | with_reducible exact Ext.refl _ | with_reducible apply Ext.alloc | with_reducible apply Ext.drew | with_reducible apply Ext.drewN | (apply Ext.trans'; assumption)))⟩
  · have HR : Hid (holdsF v L m = false) := by unfold Hid; rw [holdsF, hlen, decide_eq_false hv, Bool.false_and]
    have hb : ((n' : Int) == v) = false := by simpa using hv
    clear hlen hv
    go_enter Try.func38, Try.ntmps38
    go_wp2_with fail
    go_ret
    exact ⟨ret_bool HR.out.symm, by (repeat (first | with_reducible exact Ext.refl _ | with_reducible apply Ext.alloc | with_reducible apply Ext.drew | with_reducible apply Ext.drewN | (apply Ext.trans'; assumption)))⟩

theorem r4Holds_c (v : Int) (A : Option Addr) (n c : Nat) (L : List (List Int)) (A' : Option Addr) (n' c' : Nat) (m : List Bool) (w : World) (h : RowsSl w A n L) (h' : BoolSl w A' n' m) :
    Calls Try.prog 42 #[.agg #[.int .i64 v, .slice A n c], .slice A' n' c'] w fun e w' => e = .returned (.bool (holdsF v L m)) ∧ Ext w w' := by
  have hlen := h'.1
  by_cases hv : (n' : Int) = v
  · have HR : Hid (holdsF v L m = (firstV L m == -1)) := by
      unfold Hid; rw [holdsF, hlen, decide_eq_true hv, Bool.true_and]
      rcases firstV_cases L m with e | e
      · rw [e]; rfl
      · rw [decide_eq_false (by omega)]; symm; rw [beq_eq_false_iff_ne]; omega
    subst hv
    clear hlen
    go_enter Try.func42, Try.ntmps42
    go_wp2_with fail
    refine (rFirst_c _ _ _ _ L _ _ _ m _ (h.ext (by (repeat (first | with_reducible exact Ext.refl _ | with_reducible apply Ext.alloc | with_reducible apply Ext.drew | with_reducible apply Ext.drewN | (apply Ext.trans'; assumption))))) (h'.ext (by (repeat (first | with_reducible exact Ext.refl _ | with_reducible apply Ext.alloc | with_reducible apply Ext.drew | with_reducible apply Ext.drewN | (apply Ext.trans'; assumption)))))).mono ?_
    rintro e w1 ⟨rfl, hx⟩
    go_wp2_with fail
    go_ret
    exact ⟨ret_bool HR.out.symm, by (repeat (first | with_reducible exact Ext.refl _ | with_reducible apply Ext.alloc | with_reducible apply Ext.drew | with_reducible apply Ext.drewN | (apply Ext.trans'; assumption)))⟩
  · have HR : Hid (holdsF v L m = false) := by unfold Hid; rw [holdsF, hlen, decide_eq_false hv, Bool.false_and]
    have hb : ((n' : Int) == v) = false := by simpa using hv
    clear hlen hv
    go_enter Try.func42, Try.ntmps42
    go_wp2_with fail
    go_ret
    exact ⟨ret_bool HR.out.symm, by (repeat (first | with_reducible exact Ext.refl _ | with_reducible apply Ext.alloc | with_reducible apply Ext.drew | with_reducible apply Ext.drewN | (apply Ext.trans'; assumption)))⟩

/-- A formula's value: the least of its clauses'. -/
def statusV (l : List Int) (L : List (List Int)) : Int := L.foldl (fun a c => min a (clauseV l c)) 1
theorem statusV_snoc (l : List Int) (L : List (List Int)) (c : List Int) : statusV l (L ++ [c]) = min (statusV l L) (clauseV l c) := by unfold statusV; rw [List.foldl_append]; rfl
theorem statusV_bd (l : List Int) : ∀ (L : List (List Int)) (a : Int), -1 ≤ a → a ≤ 1 → -1 ≤ L.foldl (fun a c => min a (clauseV l c)) a ∧ L.foldl (fun a c => min a (clauseV l c)) a ≤ 1
  | [], a, h1, h2 => ⟨h1, h2⟩
  | c :: L, a, h1, h2 => by
    rw [List.foldl_cons]
    have := clauseV_bd l c
    exact statusV_bd l L _ (by omega) (by omega)

set_option maxHeartbeats 2000000 in
theorem cStatus_c (v : Int) (A : Option Addr) (n c : Nat) (L : List (List Int)) (A' : Option Addr) (n' c' : Nat) (l : List Int) (w : World) (h : RowsSl w A n L) (h' : IntSl w A' n' l) (hsm : n' ≤ 1000000000000) :
    Calls Try.prog 43 #[.agg #[.int .i64 v, .slice A n c], .slice A' n' c'] w fun e w' => e = .returned (.int .i64 (statusV l L)) ∧ Ext w w' := by
  have hn := h.len
  go_enter Try.func43, Try.ntmps43
  go_wp2_with fail
  go_loopw [5, 11] (fun s i wr => ∃ (k : Nat) (y : Int), k ≤ n ∧ i = .int .i64 k ∧ s = .int .i64 y ∧ y = statusV l (L.take k) ∧ Ext w wr) (fun _ i _ => n - (intOf i).toNat)
  case atStart => exact ⟨0, 1, Nat.zero_le _, rfl, rfl, rfl, by (repeat (first | with_reducible exact Ext.refl _ | with_reducible apply Ext.alloc | with_reducible apply Ext.drew | with_reducible apply Ext.drewN | (apply Ext.trans'; assumption)))⟩
  case round =>
    obtain ⟨k, y, hk, rfl, rfl, hy, hx⟩ := hrel
    have hyb := statusV_bd l (L.take k) 1 (by decide) (by decide)
    have hy1 : -1 ≤ y ∧ y ≤ 1 := by rw [hy]; exact hyb
    obtain ⟨hy1, hy2⟩ := hy1
    have HY := Lib.hid hy
    have HX := Lib.hid hx
    clear hy hx hyb
    by_cases hlt : k < n
    · obtain ⟨ad, xs, A1, n1, c1, rfl, hy, hcx, hrow⟩ := (h.ext HX.out).at_ hlt
      have HT := Lib.hid (take_succ_of hy.out)
      have HS : Hid (statusV l (L.take (k + 1)) = min y (clauseV l xs)) := by unfold Hid; rw [HT.out, statusV_snoc, ← HY.out]
      have hcb := clauseV_bd l xs
      obtain ⟨z, hz⟩ : ∃ z, clauseV l xs = z := ⟨_, rfl⟩
      rw [hz] at hcb
      have HZ := Lib.hid hz
      clear hz
      by_cases hm : y ≤ z
      all_goals
        go_wp2_with fail
        refine (clause_c _ _ _ l _ _ _ xs _ (h'.ext HX.out) hrow hsm).mono ?_
        rintro e w1 ⟨rfl, hx1⟩
        rw [HZ.out]
        have HX1 := Lib.hid (HX.out.trans hx1)
        clear hx1
        go_wp2_with fail
        go_roundw
        case rel => exact ⟨k + 1, _, by omega, by go_num, rfl, by rw [HS.out, HZ.out]; omega, HX1.out⟩
        case measure => simp [intOf]; omega
    · have hy := HY.out
      rw [take_len_of h.1 hlt] at hy
      have HYY := Lib.hid hy
      clear hy
      go_wp2_with fail
      go_ret
      exact ⟨ret_int HYY.out, HX.out⟩

set_option maxHeartbeats 2000000 in
theorem r4Status_c (v : Int) (A : Option Addr) (n c : Nat) (L : List (List Int)) (A' : Option Addr) (n' c' : Nat) (l : List Int) (w : World) (h : RowsSl w A n L) (h' : IntSl w A' n' l) :
    Calls Try.prog 44 #[.agg #[.int .i64 v, .slice A n c], .slice A' n' c'] w fun e w' => e = .returned (.int .i64 (statusV l L)) ∧ Ext w w' := by
  have hn := h.len
  go_enter Try.func44, Try.ntmps44
  go_wp2_with fail
  go_loop [5, 6, 7] (fun a b i => ∃ (k : Nat) (y : Int) (fa fb : Bool), k ≤ n ∧ i = .int .i64 k ∧ a = .bool fa ∧ b = .bool fb ∧ y = statusV l (L.take k) ∧ fa = decide (y = 1) ∧ fb = decide (y ≠ -1)) (fun _ _ i => n - (intOf i).toNat)
  case atStart => exact ⟨0, 1, true, true, Nat.zero_le _, rfl, rfl, rfl, rfl, rfl, rfl⟩
  case round =>
    obtain ⟨k, y, fa, fb, hk, rfl, rfl, rfl, hy, hfa, hfb⟩ := hrel
    have hyb := statusV_bd l (L.take k) 1 (by decide) (by decide)
    have hy1 : -1 ≤ y ∧ y ≤ 1 := by rw [hy]; exact hyb
    have HYB := Lib.hid hy1
    have HY := Lib.hid hy
    have HFA := Lib.hid hfa
    have HFB := Lib.hid hfb
    have hX := (Ext.refl w).alloc (Obj.cells #[.int .i64 v, .slice A n c] 48)
    clear hy hyb hy1 hfa hfb
    by_cases hlt : k < n
    · obtain ⟨ad, xs, A1, n1, c1, rfl, hy, hcx, hrow⟩ := (h.ext hX).at_ hlt
      have HT := Lib.hid (take_succ_of hy.out)
      have HS : Hid (statusV l (L.take (k + 1)) = min y (clauseV l xs)) := by unfold Hid; rw [HT.out, statusV_snoc, ← HY.out]
      have hcb := clauseV_bd l xs
      have HX := Lib.hid hX
      clear hX
      rcases (show clauseV l xs = -1 ∨ clauseV l xs = 0 ∨ clauseV l xs = 1 from by omega) with hz | hz | hz
      all_goals
        have HZ := Lib.hid hz
        clear hz hcb
        cases fa <;> cases fb
        all_goals
          go_wp2_with (go_at_call 55; (with_reducible refine (rClause_c _ _ _ l _ _ _ xs _ (h'.ext HX.out) hrow).mono ?_); rintro e w1 ⟨rfl, rfl⟩; rw [HZ.out])
          go_round
          case rel =>
            refine ⟨k + 1, _, _, _, by omega, by go_num, rfl, rfl, rfl, ?_, ?_⟩
            · rw [HS.out, HZ.out]
              have := HYB.out
              have h1 := HFA.out
              have h2 := HFB.out
              symm
              first
                | (rw [decide_eq_false_iff_not]; have h1 := of_decide_eq_false h1.symm; omega)
                | (rw [decide_eq_true_eq]; have h1 := of_decide_eq_true h1.symm; omega)
                | (rw [decide_eq_false_iff_not]; omega)
            · rw [HS.out, HZ.out]
              have := HYB.out
              have h1 := HFA.out
              have h2 := HFB.out
              symm
              first
                | (rw [decide_eq_false_iff_not]; have h2 := of_decide_eq_false h2.symm; omega)
                | (rw [decide_eq_true_eq]; have h2 := of_decide_eq_true h2.symm; omega)
                | (rw [decide_eq_false_iff_not]; omega)
          case measure => simp [intOf]; omega
    · have hy := HY.out
      rw [take_len_of h.1 hlt] at hy
      have HYY := Lib.hid hy
      have HX := Lib.hid hX
      clear hy hX
      cases fa <;> cases fb
      all_goals
        go_wp2
        go_ret
        refine ⟨ret_int ?_, HX.out⟩
        rw [← HYY.out]
        have := HYB.out
        have h1 := HFA.out
        have h2 := HFB.out
        simp at h1 h2
        omega
end Go.Proofs.Ytdhohoabcokdjaa
