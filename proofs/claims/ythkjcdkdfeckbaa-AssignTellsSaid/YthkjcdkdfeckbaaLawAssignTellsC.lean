/- AssignTells answers true. -/
import Derived.Test.YthkjcdkdfeckbaaAssignAwake
import Derived.Deep.RegionHeld3
namespace Go.Proofs.Ythkjcdkdfeckbaa
open Go.RowKit

set_option maxHeartbeats 4000000 in
theorem lawAssignTells_c (A : Option Addr) (n c : Nat) (l : List Int) (A' : Option Addr) (n' c' : Nat) (cl : List Int) (x y : Int) (w : World) (h : IntSl w A n l ∧ n ≤ c) (h' : IntSl w A' n' cl) (_h2 : -9223372036854775808 ≤ x ∧ x ≤ 9223372036854775807) (h3 : -9223372036854775808 ≤ y ∧ y ≤ 9223372036854775807) :
    Calls Try.prog 6 #[.slice A n c, .slice A' n' c', .agg #[.int .i64 x, .int .i64 y]] w fun e w' => e = .returned (.bool true) ∧ Ext w w' := by
  obtain ⟨hl, hc⟩ := h
  obtain ⟨hy1, hy2⟩ := h3
  by_cases h : 200 < n ∨ 200 < n'
  · rcases h with h | h
    all_goals
      go_enter Try.func6, Try.ntmps6
      go_wp2_with (go_at_call 27; refine (law03awake_c _).mono ?_; rintro e w1 ⟨rfl, hx⟩)
      all_goals
        try go_ret
        try exact ⟨rfl, ((Ext.refl _).alloc _).trans hx⟩
    all_goals (exfalso; omega)
  · have hn : n ≤ 200 := by omega
    have hn' : n' ≤ 200 := by omega
    have hsm : n ≤ 1000000000000 := by omega
    clear h
    have heq := fun W : World => eq3 W (cnV l cl 1) (cnV l cl (-1)) (cnV l cl 0)
    go_enter Try.func6, Try.ntmps6
    go_wp2_with (first
      | (go_at_call 28; (with_reducible refine (unit_c _ _ _ l _ _ _ cl _ ?_ ?_ hsm).mono ?_); (exact hl.ext ((Ext.refl _).alloc _)); (exact h'.ext ((Ext.refl _).alloc _)); rintro e w1 ⟨rfl, hx1⟩)
      | (go_at_call 29; (with_reducible refine (rUnit_c _ _ _ l _ _ _ cl _ ?_ ?_).mono ?_); (exact hl.ext (((Ext.refl _).alloc _).trans hx1)); (exact h'.ext (((Ext.refl _).alloc _).trans hx1)); rintro e w2 ⟨rfl, hx2⟩))
    have hx02 : Ext (w.alloc (Obj.cells #[.int .i64 x, .int .i64 y] 41)) w2 := hx1.trans hx2
    have hc0 : w2.cell? ⟨w.heap.size, 0, none⟩ = some (.int .i64 x) := hx02.cell ((Blk.new w 41 #[.int .i64 x, .int .i64 y]).cell 0)
    have hc1 : w2.cell? ⟨w.heap.size, 1, none⟩ = some (.int .i64 y) := hx02.cell ((Blk.new w 41 #[.int .i64 x, .int .i64 y]).cell 1)
    go_region_held3 (fun w' => w'.cell? ⟨w.heap.size, 0, none⟩ = some (.int .i64 x) ∧ w'.cell? ⟨w.heap.size, 1, none⟩ = some (.int .i64 y))
      (first | assumption | (go_split_ands; refine ⟨?_, ?_⟩ <;> first | assumption | exact Ext.cell (by assumption) (by assumption) | (go_simp; done)))
      (first
        | (go_at_call 30; (with_reducible refine (acheck_c _ _ _ l y _ ?_ hsm hy1 hy2).mono ?_); (refine hl.ext ?_); (repeat (first | with_reducible exact Ext.refl _ | with_reducible apply Ext.alloc | with_reducible apply Ext.drew | (apply Ext.trans'; assumption))); rintro e w3 ⟨rfl, hx3⟩)
        | (go_at_call 24; (with_reducible refine (rACheck_c _ _ _ l y _ ?_ hc hy1 hy2).mono ?_); (refine hl.ext ?_); (repeat (first | with_reducible exact Ext.refl _ | with_reducible apply Ext.alloc | with_reducible apply Ext.drew | (apply Ext.trans'; assumption))); rintro e w4 ⟨rfl, hx4⟩)
        | (go_at_call 31; (with_reducible refine (value_c _ _ _ l x _ ?_).mono ?_); (refine hl.ext ?_); (repeat (first | with_reducible exact Ext.refl _ | with_reducible apply Ext.alloc | with_reducible apply Ext.drew | (apply Ext.trans'; assumption))); rintro e w' ⟨rfl, rfl⟩)
        | (go_at_call 32; (with_reducible refine (rValue_c _ _ _ l x _ ?_).mono ?_); (refine hl.ext ?_); (repeat (first | with_reducible exact Ext.refl _ | with_reducible apply Ext.alloc | with_reducible apply Ext.drew | (apply Ext.trans'; assumption))); rintro e w' ⟨rfl, rfl⟩)
        | (go_at_call 33; (with_reducible refine (clause_c _ _ _ l _ _ _ cl _ ?_ ?_ hsm).mono ?_); (refine hl.ext ?_); (repeat (first | with_reducible exact Ext.refl _ | with_reducible apply Ext.alloc | with_reducible apply Ext.drew | (apply Ext.trans'; assumption))); (refine h'.ext ?_); (repeat (first | with_reducible exact Ext.refl _ | with_reducible apply Ext.alloc | with_reducible apply Ext.drew | (apply Ext.trans'; assumption))); rintro e w5 ⟨rfl, hx5⟩)
        | (go_at_call 25; (with_reducible refine (rClause_c _ _ _ l _ _ _ cl _ ?_ ?_).mono ?_); (refine hl.ext ?_); (repeat (first | with_reducible exact Ext.refl _ | with_reducible apply Ext.alloc | with_reducible apply Ext.drew | (apply Ext.trans'; assumption))); (refine h'.ext ?_); (repeat (first | with_reducible exact Ext.refl _ | with_reducible apply Ext.alloc | with_reducible apply Ext.drew | (apply Ext.trans'; assumption))); rintro e w' ⟨rfl, rfl⟩)
        | (go_at_call 34; (with_reducible refine (count_c _ _ _ l _ _ _ cl _ ?_ ?_ hsm).mono ?_); (refine hl.ext ?_); (repeat (first | with_reducible exact Ext.refl _ | with_reducible apply Ext.alloc | with_reducible apply Ext.drew | (apply Ext.trans'; assumption))); (refine h'.ext ?_); (repeat (first | with_reducible exact Ext.refl _ | with_reducible apply Ext.alloc | with_reducible apply Ext.drew | (apply Ext.trans'; assumption))); rintro e w6 ⟨rfl, hx6⟩)
        | (go_at_call 35; (with_reducible refine (rCount_c _ _ _ l _ _ _ cl _ ?_ ?_).mono ?_); (refine hl.ext ?_); (repeat (first | with_reducible exact Ext.refl _ | with_reducible apply Ext.alloc | with_reducible apply Ext.drew | (apply Ext.trans'; assumption))); (refine h'.ext ?_); (repeat (first | with_reducible exact Ext.refl _ | with_reducible apply Ext.alloc | with_reducible apply Ext.drew | (apply Ext.trans'; assumption))); rintro e w7 ⟨rfl, hx7⟩)
        | (go_at_call 27; refine (law03awake_c _).mono ?_; rintro e w8 ⟨rfl, hx8⟩))
    go_wp2
    go_ret
    exact ⟨rfl, by repeat (first | with_reducible exact Ext.refl _ | with_reducible apply Ext.alloc | with_reducible apply Ext.drew | (apply Ext.trans'; assumption))⟩
end Go.Proofs.Ythkjcdkdfeckbaa
