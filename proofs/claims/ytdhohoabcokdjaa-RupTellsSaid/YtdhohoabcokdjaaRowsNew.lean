/- A slice of slices that was just built; a part of one. -/
import Derived.Test.YtdhohoabcokdjaaSlRows
import Derived.Test.YtdhohoabcokdjaaNew
set_option maxRecDepth 100000
namespace Go.Proofs.Ytdhohoabcokdjaa
open Go.RowKit

/-- These values are slices that read as these lists. -/
def RowVals (w : World) : List Value → List (List Int) → Prop
  | [], [] => True
  | v :: vs, xs :: L => (∃ A n c, v = .slice A n c ∧ IntSl w A n xs) ∧ RowVals w vs L
  | _, _ => False
theorem RowVals.at_ {w : World} : ∀ {vs : List Value} {L : List (List Int)} {j : Nat} {xs : List Int}, RowVals w vs L → L[j]? = some xs → ∃ A n c, vs[j]? = some (.slice A n c) ∧ IntSl w A n xs
  | [], [], _, _, _, h => by simp at h
  | v :: vs, ys :: L, 0, xs, h, hj => by
    obtain ⟨⟨A, n, c, rfl, hs⟩, _⟩ := h
    obtain rfl : ys = xs := by simpa using hj
    exact ⟨A, n, c, rfl, hs⟩
  | v :: vs, ys :: L, j + 1, xs, h, hj => by
    obtain ⟨A, n, c, h1, h2⟩ := RowVals.at_ (j := j) (xs := xs) h.2 (by simpa using hj)
    exact ⟨A, n, c, by simpa using h1, h2⟩
theorem RowVals.nil (w : World) : RowVals w [] [] := trivial
theorem RowVals.cons {w : World} {A : Option Addr} {n c : Nat} {xs : List Int} {vs : List Value} {L : List (List Int)} (h : IntSl w A n xs) (t : RowVals w vs L) : RowVals w (.slice A n c :: vs) (xs :: L) := ⟨⟨A, n, c, rfl, h⟩, t⟩
theorem rowsSl_newg {w : World} {g : Nat} (vs : List Value) (T : TypeId) (L : List (List Int)) (n : Nat) (hn : L.length = n) (h2 : n ≤ 9223372036854775807) (hg : w.heap.size = g) (h : RowVals w vs L) :
    RowsSl (w.alloc (.cells vs.toArray T)) (some ⟨g, 0, none⟩) n L := by
  subst hg
  refine ⟨hn, h2, fun _ => ⟨_, rfl, fun j xs hj => ?_⟩⟩
  obtain ⟨A, n', c, h1, h2⟩ := h.at_ hj
  refine ⟨A, n', c, ?_, h2.ext ((Ext.refl w).alloc _)⟩
  have e : (⟨w.heap.size, 0, none⟩ : Addr).add j = ⟨w.heap.size, j, none⟩ := by unfold Addr.add; split <;> simp_all
  rw [e, cell_of_row (w.alloc (.cells vs.toArray T)) w.heap.size j vs.toArray T (0, 0) (heap_alloc_new w _)]
  simpa using h1
theorem RowsSl.take {w : World} {A : Option Addr} {n k : Nat} {L : List (List Int)} (h : RowsSl w A n L) (hk : k ≤ n) : RowsSl w A k (L.take k) := by
  refine ⟨by rw [List.length_take, h.1]; omega, by have := h.2.1; omega, fun hp => ?_⟩
  obtain ⟨ad, e, hc⟩ := h.2.2 (by omega)
  refine ⟨ad, e, fun j xs hj => ?_⟩
  have hjk : j < k := by have := (List.getElem?_eq_some_iff.1 hj).1; rw [List.length_take] at this; omega
  rw [List.getElem?_take_of_lt hjk] at hj
  exact hc j xs hj
/-- It hands back a slice of slices, with room for all of them. -/
def RetRowsC (L : List (List Int)) (w : World) (e : Ending) (w' : World) : Prop := ∃ A n c, e = .returned (.slice A n c) ∧ RowsSl w' A n L ∧ n ≤ c ∧ Ext w w'
theorem bd_lit {xs : List Int} (h : (xs.all fun x => decide (-100000 ≤ x) && decide (x ≤ 100000)) = true) : ∀ x ∈ xs, -9223372036854775808 ≤ x ∧ x ≤ 9223372036854775807 := by
  intro x hx
  have := List.all_eq_true.1 h x hx
  simp at this
  omega
end Go.Proofs.Ytdhohoabcokdjaa
