/- Layer 4 (cnf): does a formula hold; its value. And the reference's. -/
import Derived.Test.YtdiapihfjmbgoaaUnits1
import Derived.Test.YtdiapihfjmbgoaaFirst
import Derived.Laws.EntriesVeiled
set_option maxRecDepth 100000
namespace Go.Proofs.Ytdiapihfjmbgoaa
open Go.RowKit

theorem enters_truths : Enters 68 := by
  intro args w
  go_simp

theorem enters_first : Enters 62 := by
  intro args w
  go_simp

theorem side_pos {x : Int} (h : x ≤ 100000) : sideV x = decide (0 < x) := by unfold sideV; rw [decide_eq_true h, Bool.and_true]

set_option maxHeartbeats 1000000 in
theorem truths1_c (x : Int) (q : Addr) (A : Option Addr) (n c : Nat) (m : List Bool) (w : World) (hq : w.cell? q = some (.slice A n c)) (h : BoolSl w A n m) :
    Calls Try.prog 68 #[.int .i64 x, .pointer (some q)] w fun e w' => e = .returned (.bool (litHolds m x)) ∧ w = w' := by
  have hn := h.len
  have hlen := h.1
  have hb : 0 ≤ varV x ∧ varV x ≤ 100000 := varV_bd x
  obtain ⟨j, hj⟩ := Int.eq_ofNat_of_zero_le hb.1
  have hjb : j ≤ 100000 := by omega
  have HJ := Lib.hid hj
  by_cases hv : j = 0
  · subst hv
    have HL : Hid (litHolds m x = false) := by unfold Hid; rw [litHolds, HJ.out]; rfl
    clear hj hb
    go_enter Try.func68, Try.ntmps68
    go_wp2_with (go_at_call 54; refine (var_c _ _).mono ?_; rintro e w' ⟨rfl, rfl⟩; rw [HJ.out])
    go_ret
    exact ⟨ret_bool HL.out.symm, rfl⟩
  · obtain ⟨_, _, hx5⟩ := varV_pos (l := x) (by omega)
    obtain ⟨i, rfl⟩ : ∃ i, j = i + 1 := ⟨j - 1, by omega⟩
    clear hv hj hb
    have hpos : (0 : Int) < ((i + 1 : Nat) : Int) := by omega
    have HL : Hid (litHolds m x = ((decide (i < n) && m.getD i false) == decide (0 < x))) := by
      unfold Hid; rw [litHolds, truthV, HJ.out, hlen, side_pos hx5]
      have e1 : decide (((i + 1 : Nat) : Int) ≠ 0) = true := by rw [decide_eq_true_eq]; omega
      have e2 : decide (((i + 1 : Nat) : Int) ≤ (n : Int)) = decide (i < n) := by rw [decide_eq_decide]; omega
      have e3 : (((i + 1 : Nat) : Int) - 1).toNat = i := by omega
      rw [e1, e2, e3, Bool.true_and]
    clear hlen
    by_cases hle : i < n
    · obtain ⟨ad', y, rfl, hy, hcy⟩ := h.at_ hle
      have hle2 : (i : Int) < n := by omega
      have hg : m.getD i false = y := by rw [List.getD_eq_getElem?_getD, hy.out]; rfl
      rw [hg, show decide (i < n) = true from by simp [hle], Bool.true_and] at HL
      clear hg
      by_cases hx0 : 0 < x
      all_goals
        go_enter Try.func68, Try.ntmps68
        go_wp2_with (go_at_call 54; refine (var_c _ _).mono ?_; rintro e w' ⟨rfl, rfl⟩; rw [HJ.out])
        go_ret
        exact ⟨ret_bool (by first | (rw [HL.out]; done) | (rw [HL.out]; simp [hx0]; done) | (rw [HL.out]; simp [hx0]; omega)), rfl⟩
    · rw [show decide (i < n) = false from by simp [hle], Bool.false_and] at HL
      have hle2 : ¬ ((i : Int) < n) := by omega
      by_cases hx0 : 0 < x
      all_goals
        go_enter Try.func68, Try.ntmps68
        go_wp2_with (go_at_call 54; refine (var_c _ _).mono ?_; rintro e w' ⟨rfl, rfl⟩; rw [HJ.out])
        go_ret
        exact ⟨ret_bool (by first | (rw [HL.out]; done) | (rw [HL.out]; simp [hx0]; done) | (rw [HL.out]; simp [hx0]; omega)), rfl⟩

theorem truths_c (A : Option Addr) (n c : Nat) (w : World) :
    Calls Try.prog 60 #[.slice A n c] w fun e w' => e = .returned (.func (.func 68) #[] #[.pointer (some ⟨w.heap.size, 0, none⟩)]) ∧ w' = w.alloc (.cells #[.slice A n c] 33) := by
  go_enter Try.func60, Try.ntmps60
  go_wp2
  go_ret
  exact ⟨rfl, rfl⟩

theorem first1_c (q p : Addr) (A : Option Addr) (n c : Nat) (m : List Bool) (A' : Option Addr) (n' c' : Nat) (cl : List Int) (w : World) (hq : w.cell? q = some (.func (.func 68) #[] #[.pointer (some p)])) (hp : w.cell? p = some (.slice A n c)) (h : BoolSl w A n m) (h' : IntSl w A' n' cl) :
    Calls Try.prog 62 #[.slice A' n' c', .pointer (some q)] w fun e w' => e = .returned (.bool (!holdsV cl m)) ∧ w = w' := by
  go_enter Try.func62, Try.ntmps62
  go_wp2_with fail
  refine (containsFunc_c _ _ _ cl (litHolds m) _ _ _ h' enters_truths ?_).mono ?_
  · intro x _
    exact truths1_c x p A n c m w hp h
  rintro e w' ⟨rfl, rfl⟩
  go_wp2_with fail
  go_ret
  exact ⟨rfl, rfl⟩

set_option maxHeartbeats 1000000 in
theorem cFirst_c (v : Int) (A : Option Addr) (n c : Nat) (L : List (List Int)) (A' : Option Addr) (n' c' : Nat) (m : List Bool) (w : World) (h : RowsSl w A n L) (h' : BoolSl w A' n' m) :
    Calls Try.prog 51 #[.agg #[.int .i64 v, .slice A n c], .slice A' n' c'] w fun e w' => e = .returned (.int .i64 (firstV L m)) ∧ Ext w w' := by
  go_enter Try.func51, Try.ntmps51
  go_wp2_with fail
  refine (truths_c _ _ _ _).mono ?_
  rintro e w1 ⟨rfl, rfl⟩
  go_wp2_with fail
  have hq := cell_one ((w.alloc (Obj.cells #[.int .i64 v, .slice A n c] 24)).alloc (Obj.cells #[.slice A' n' c'] 33)) (.func (.func 68) #[] #[.pointer (some ⟨w.heap.size + 1, 0, none⟩)]) 94
  have hp := ((Ext.refl _).alloc (Obj.cells #[.func (.func 68) #[] #[.pointer (some ⟨w.heap.size + 1, 0, none⟩)]] 94)).cell (cell_one (w.alloc (Obj.cells #[.int .i64 v, .slice A n c] 24)) (.slice A' n' c') 33)
  simp only [World.size_alloc] at hq hp
  refine (idxRows_c _ _ _ L (fun cl => !holdsV cl m) _ _ _ (h.ext (by (repeat (first | with_reducible exact Ext.refl _ | with_reducible apply Ext.alloc | with_reducible apply Ext.drew | with_reducible apply Ext.drewN | (apply Ext.trans'; assumption))))) enters_first ?_).mono ?_
  · intro A1 n1 c1 xs hxs
    exact first1_c _ _ _ _ _ m _ _ _ xs _ hq hp (h'.ext (by (repeat (first | with_reducible exact Ext.refl _ | with_reducible apply Ext.alloc | with_reducible apply Ext.drew | with_reducible apply Ext.drewN | (apply Ext.trans'; assumption))))) hxs
  rintro e w' ⟨rfl, rfl⟩
  go_wp2_with fail
  go_ret
  exact ⟨rfl, by (repeat (first | with_reducible exact Ext.refl _ | with_reducible apply Ext.alloc | with_reducible apply Ext.drew | with_reducible apply Ext.drewN | (apply Ext.trans'; assumption)))⟩

def holdsF (v : Int) (L : List (List Int)) (m : List Bool) : Bool := decide ((m.length : Int) = v) && decide (firstV L m < 0)
theorem firstV_cases (L : List (List Int)) (m : List Bool) : firstV L m = -1 ∨ 0 ≤ firstV L m := by have := (idxP_bd (fun c => !holdsV c m) L).1; unfold firstV; omega

theorem cHolds_c (v : Int) (A : Option Addr) (n c : Nat) (L : List (List Int)) (A' : Option Addr) (n' c' : Nat) (m : List Bool) (w : World) (h : RowsSl w A n L) (h' : BoolSl w A' n' m) :
    Calls Try.prog 33 #[.agg #[.int .i64 v, .slice A n c], .slice A' n' c'] w fun e w' => e = .returned (.bool (holdsF v L m)) ∧ Ext w w' := by
  have hlen := h'.1
  by_cases hv : (n' : Int) = v
  · have HR : Hid (holdsF v L m = decide (firstV L m < 0)) := by unfold Hid; rw [holdsF, hlen, decide_eq_true hv, Bool.true_and]
    subst hv
    clear hlen
    go_enter Try.func33, Try.ntmps33
    go_wp2_with fail
    refine (cFirst_c _ _ _ _ L _ _ _ m _ (h.ext (by (repeat (first | with_reducible exact Ext.refl _ | with_reducible apply Ext.alloc | with_reducible apply Ext.drew | with_reducible apply Ext.drewN | (apply Ext.trans'; assumption))))) (h'.ext (by (repeat (first | with_reducible exact Ext.refl _ | with_reducible apply Ext.alloc | with_reducible apply Ext.drew | with_reducible apply Ext.drewN | (apply Ext.trans'; assumption)))))).mono ?_
    rintro e w1 ⟨rfl, hx⟩
    go_wp2_with fail
    go_ret
    exact ⟨ret_bool HR.out.symm, by (repeat (first | with_reducible exact Ext.refl _ | with_reducible apply Ext.alloc | with_reducible apply Ext.drew | with_reducible apply Ext.drewN | (apply Ext.trans'; assumption)))⟩
  · have HR : Hid (holdsF v L m = false) := by unfold Hid; rw [holdsF, hlen, decide_eq_false hv, Bool.false_and]
    have hb : ((n' : Int) == v) = false := by simpa using hv
    clear hlen hv
    go_enter Try.func33, Try.ntmps33
    go_wp2_with fail
    go_ret
    exact ⟨ret_bool HR.out.symm, by (repeat (first | with_reducible exact Ext.refl _ | with_reducible apply Ext.alloc | with_reducible apply Ext.drew | with_reducible apply Ext.drewN | (apply Ext.trans'; assumption)))⟩

theorem r4Holds_c (v : Int) (A : Option Addr) (n c : Nat) (L : List (List Int)) (A' : Option Addr) (n' c' : Nat) (m : List Bool) (w : World) (h : RowsSl w A n L) (h' : BoolSl w A' n' m) :
    Calls Try.prog 20 #[.agg #[.int .i64 v, .slice A n c], .slice A' n' c'] w fun e w' => e = .returned (.bool (holdsF v L m)) ∧ Ext w w' := by
  have hlen := h'.1
  by_cases hv : (n' : Int) = v
  · have HR : Hid (holdsF v L m = (firstV L m == -1)) := by
      unfold Hid; rw [holdsF, hlen, decide_eq_true hv, Bool.true_and]
      rcases firstV_cases L m with e | e
      · rw [e]; rfl
      · rw [decide_eq_false (by omega)]; symm; rw [beq_eq_false_iff_ne]; omega
    subst hv
    clear hlen
    go_enter Try.func20, Try.ntmps20
    go_wp2_with fail
    refine (rFirst_c _ _ _ _ L _ _ _ m _ (h.ext (by (repeat (first | with_reducible exact Ext.refl _ | with_reducible apply Ext.alloc | with_reducible apply Ext.drew | with_reducible apply Ext.drewN | (apply Ext.trans'; assumption))))) (h'.ext (by (repeat (first | with_reducible exact Ext.refl _ | with_reducible apply Ext.alloc | with_reducible apply Ext.drew | with_reducible apply Ext.drewN | (apply Ext.trans'; assumption)))))).mono ?_
    rintro e w1 ⟨rfl, hx⟩
    go_wp2_with fail
    go_ret
    exact ⟨ret_bool HR.out.symm, by (repeat (first | with_reducible exact Ext.refl _ | with_reducible apply Ext.alloc | with_reducible apply Ext.drew | with_reducible apply Ext.drewN | (apply Ext.trans'; assumption)))⟩
  · have HR : Hid (holdsF v L m = false) := by unfold Hid; rw [holdsF, hlen, decide_eq_false hv, Bool.false_and]
    have hb : ((n' : Int) == v) = false := by simpa using hv
    clear hlen hv
    go_enter Try.func20, Try.ntmps20
    go_wp2_with fail
    go_ret
    exact ⟨ret_bool HR.out.symm, by (repeat (first | with_reducible exact Ext.refl _ | with_reducible apply Ext.alloc | with_reducible apply Ext.drew | with_reducible apply Ext.drewN | (apply Ext.trans'; assumption)))⟩

/-- A formula's value: the least of its clauses'. -/
def statusV (l : List Int) (L : List (List Int)) : Int := L.foldl (fun a c => min a (clauseV l c)) 1
theorem statusV_snoc (l : List Int) (L : List (List Int)) (c : List Int) : statusV l (L ++ [c]) = min (statusV l L) (clauseV l c) := by unfold statusV; rw [List.foldl_append]; rfl
theorem statusV_bd (l : List Int) : ∀ (L : List (List Int)) (a : Int), -1 ≤ a → a ≤ 1 → -1 ≤ L.foldl (fun a c => min a (clauseV l c)) a ∧ L.foldl (fun a c => min a (clauseV l c)) a ≤ 1
  | [], a, h1, h2 => ⟨h1, h2⟩
  | c :: L, a, h1, h2 => by
    rw [List.foldl_cons]
    have := clauseV_bd l c
    exact statusV_bd l L _ (by omega) (by omega)


end Go.Proofs.Ytdiapihfjmbgoaa
