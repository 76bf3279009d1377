/- replevinlaw18.awake answers true. -/
import Derived.Test.YtnbodnihfkfmnaaLuby5
import Derived.Test.YtnbodnihfkfmnaaSame
namespace Go.Proofs.Ytnbodnihfkfmnaa
open Go.RowKit

theorem intSl_new (w : World) (cs : Array Value) (T : TypeId) (xs : List Int) (n : Nat) (hn : xs.length = n) (hcs : cs.toList = xs.map (Value.int .i64)) (h2 : n ≤ 9223372036854775807) (h3 : ∀ x ∈ xs, -9223372036854775808 ≤ x ∧ x ≤ 9223372036854775807) :
    IntSl (w.alloc (.cells cs T)) (some ⟨w.heap.size, 0, none⟩) n xs := by
  refine ⟨hn, h2, h3, fun _ => ⟨_, rfl, fun j x hj => ?_⟩⟩
  have e : (⟨w.heap.size, 0, none⟩ : Addr).add j = ⟨w.heap.size, j, none⟩ := by unfold Addr.add; split <;> simp_all
  rw [e, cell_of_row (w.alloc (.cells cs T)) w.heap.size j cs T (0, 0) (heap_alloc_new w _)]
  rw [← Array.getElem?_toList, hcs]
  simp [hj]

/-- Next at numbers that are laid out. -/
theorem lubyNext_at (c u : Int) (w : World) (r : Int) (m : Nat) (hb : ¬ badNext c u) (e : r = u * (lubyS (m + 1) : Nat)) (h1 : c < r) (h2 : u * (lubyS m : Nat) ≤ c) (h3 : (m : Int) ≤ c) :
    Calls Try.prog 35 #[.int .i64 c, .int .i64 u] w fun e w' => e = .returned (.int .i64 r) ∧ Ext w w' :=
  (lubyNext_c c u w).mono fun e' w' ⟨r', he, hr, hx⟩ => by
    rcases hr with ⟨hb', _⟩ | ⟨_, hr⟩
    · exact absurd hb' hb
    · have := NextIs.uniq (by unfold badNext at hb; omega) hr ⟨m, e, h1, h2, h3⟩
      subst this
      exact ⟨he, hx⟩
theorem lubyNext_bad (c u : Int) (w : World) (hb : badNext c u) : Calls Try.prog 35 #[.int .i64 c, .int .i64 u] w fun e w' => e = .returned (.int .i64 0) ∧ Ext w w' :=
  (lubyNext_c c u w).mono fun e' w' ⟨r', he, hr, hx⟩ => by
    rcases hr with ⟨_, rfl⟩ | ⟨hb', _⟩
    · exact ⟨he, hx⟩
    · exact absurd hb hb'

set_option maxHeartbeats 1000000 in
theorem law18awake_c (w : World) : Calls Try.prog 27 #[] w fun e w' => e = .returned (.bool true) ∧ Ext w w' := by
  have a1 : lubyAt 7 = 4 := by decide
  have a2 : lubyAt 0 = 0 := by decide
  have a3 : lubySum 7 = 12 := by decide
  have a4 : sameV (lubyL 8) [1, 1, 2, 1, 1, 2, 4, 1] = true := by decide
  have L8 := fun w : World => intSl_new w #[.int .i64 1, .int .i64 1, .int .i64 2, .int .i64 1, .int .i64 1, .int .i64 2, .int .i64 4, .int .i64 1] 3 [1, 1, 2, 1, 1, 2, 4, 1] 8 rfl rfl (by decide) (by decide)
  have N1 := fun w : World => lubyNext_at 0 100 w 100 0 (by unfold badNext; decide) (by decide) (by decide) (by decide) (by decide)
  have N2 := fun w : World => lubyNext_at 100 100 w 200 1 (by unfold badNext; decide) (by decide) (by decide) (by decide) (by decide)
  have N3 := fun w : World => lubyNext_at 200 100 w 400 2 (by unfold badNext; decide) (by decide) (by decide) (by decide) (by decide)
  have N4 := fun w : World => lubyNext_bad (-1) 100 w (by unfold badNext; decide)
  have M1 := Lib.hid N1
  have M2 := Lib.hid N2
  have M3 := Lib.hid N3
  have M4 := Lib.hid N4
  clear N1 N2 N3 N4
  go_enter Try.func27, Try.ntmps27
  go_wp2_with (first
    | (go_at_call 31; refine (lubyFirst_c _ _).mono ?_; rintro e w1 ⟨A, m, c, rfl, hs, hx1⟩; have hs' := hs.ext ((Ext.refl _).alloc (.cells #[.int .i64 1, .int .i64 1, .int .i64 2, .int .i64 1, .int .i64 1, .int .i64 2, .int .i64 4, .int .i64 1] 3)))
    | (go_at_call 30; (with_reducible refine (same_c _ _ _ (lubyL 8) _ _ _ [1, 1, 2, 1, 1, 2, 4, 1] _ hs' (L8 _)).mono ?_); rintro e w2 ⟨rfl, hx2⟩)
    | (go_at_call 28; refine (lubyAt_c _ _).mono ?_; rintro e w' ⟨rfl, rfl⟩)
    | (go_at_call 33; refine (lubySum_c _ _).mono ?_; rintro e w3 ⟨rfl, hx3⟩)
    | (go_at_call 35; (with_reducible refine (M1.out _).mono ?_); rintro e w4 ⟨rfl, hx4⟩)
    | (go_at_call 35; (with_reducible refine (M2.out _).mono ?_); rintro e w5 ⟨rfl, hx5⟩)
    | (go_at_call 35; (with_reducible refine (M3.out _).mono ?_); rintro e w6 ⟨rfl, hx6⟩)
    | (go_at_call 35; (with_reducible refine (M4.out _).mono ?_); rintro e w7 ⟨rfl, hx7⟩))
  go_ret
  exact ⟨rfl, by repeat (first | exact Ext.refl _ | assumption | refine Ext.trans ?_ (by assumption) | apply Ext.alloc)⟩
end Go.Proofs.Ytnbodnihfkfmnaa
