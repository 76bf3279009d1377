/- A slice that was just built reads as its elements. -/
import Derived.Test.YtdhohoabcokdjaaBoolSl
set_option maxRecDepth 100000
namespace Go.Proofs.Ytdhohoabcokdjaa
open Go.RowKit


theorem intSl_new (w : World) (cs : Array Value) (T : TypeId) (xs : List Int) (n : Nat) (hn : xs.length = n) (hcs : cs.toList = xs.map (Value.int .i64)) (h2 : n ≤ 9223372036854775807) (h3 : ∀ x ∈ xs, -9223372036854775808 ≤ x ∧ x ≤ 9223372036854775807) :
    IntSl (w.alloc (.cells cs T)) (some ⟨w.heap.size, 0, none⟩) n xs := by
  refine ⟨hn, h2, h3, fun _ => ⟨_, rfl, fun j x hj => ?_⟩⟩
  have e : (⟨w.heap.size, 0, none⟩ : Addr).add j = ⟨w.heap.size, j, none⟩ := by unfold Addr.add; split <;> simp_all
  rw [e, cell_of_row (w.alloc (.cells cs T)) w.heap.size j cs T (0, 0) (heap_alloc_new w _)]
  rw [← Array.getElem?_toList, hcs]
  simp [hj]

theorem boolSl_new (w : World) (cs : Array Value) (T : TypeId) (xs : List Bool) (n : Nat) (hn : xs.length = n) (hcs : cs.toList = xs.map Value.bool) (h2 : n ≤ 9223372036854775807) :
    BoolSl (w.alloc (.cells cs T)) (some ⟨w.heap.size, 0, none⟩) n xs := by
  refine ⟨hn, h2, fun _ => ⟨_, rfl, fun j x hj => ?_⟩⟩
  have e : (⟨w.heap.size, 0, none⟩ : Addr).add j = ⟨w.heap.size, j, none⟩ := by unfold Addr.add; split <;> simp_all
  rw [e, cell_of_row (w.alloc (.cells cs T)) w.heap.size j cs T (0, 0) (heap_alloc_new w _)]
  rw [← Array.getElem?_toList, hcs]
  simp [hj]

theorem intSl_newg (cs : Array Value) (T : TypeId) (xs : List Int) (n : Nat) (hn : xs.length = n) (hcs : cs.toList = xs.map (Value.int .i64)) (h2 : n ≤ 9223372036854775807) (h3 : ∀ x ∈ xs, -9223372036854775808 ≤ x ∧ x ≤ 9223372036854775807)
    (w : World) (g : Nat) (hg : w.heap.size = g) : IntSl (w.alloc (.cells cs T)) (some ⟨g, 0, none⟩) n xs := by
  subst hg; exact intSl_new w cs T xs n hn hcs h2 h3

theorem boolSl_newg (cs : Array Value) (T : TypeId) (xs : List Bool) (n : Nat) (hn : xs.length = n) (hcs : cs.toList = xs.map Value.bool) (h2 : n ≤ 9223372036854775807)
    (w : World) (g : Nat) (hg : w.heap.size = g) : BoolSl (w.alloc (.cells cs T)) (some ⟨g, 0, none⟩) n xs := by
  subst hg; exact boolSl_new w cs T xs n hn hcs h2
end Go.Proofs.Ytdhohoabcokdjaa
