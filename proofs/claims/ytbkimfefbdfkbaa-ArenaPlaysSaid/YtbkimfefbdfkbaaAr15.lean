/- Layer 12 (arena): the rows that the law keeps beside an arena (5 cells a row; the clause's slice is the row's own). -/
import Derived.Test.YtbkimfefbdfkbaaAr14
import Derived.Test.YtbkimfefbdfkbaaAr13
import Derived.Test.YtbkimfefbdfkbaaGen
import Derived.Test.YtbkimfefbdfkbaaStill
set_option maxRecDepth 100000
namespace Go.Proofs.Ytbkimfefbdfkbaa
open Go.RowKit

theorem add_pos15 (a : Addr) (i j : Nat) (hj : j ≠ 0) : a.add (i + j) = ⟨(a.add i).block, (a.add i).off + j, none⟩ := by
  rw [← Addr.add_add]
  generalize a.add i = b
  unfold Addr.add
  rw [if_neg hj]
theorem elt12 : Elt 56 72 (.agg #[.int .i64 0, .int .i64 0, .slice none 0 0, .bool false, .bool false]) 5 48 := ⟨Try.underlying56, by kernel_rfl, rfl, by decide, by decide⟩
/-- One kept row: number, clause's slice, side. -/
structure KRow where
  id : Int
  A : Option Addr
  n : Nat
  c : Nat
  learnt : Bool
def encK (q : KRow) : List Value := [.int .i64 0, .int .i64 q.id, .slice q.A q.n q.c, .bool q.learnt, .bool false]
theorem encK_len (q : KRow) : (encK q).length = 5 := rfl
/-- The row is r's, its clause lies outside F. -/
def KIs (F : Nat → Prop) (w : World) (q : KRow) (r : ARow) : Prop := q.id = r.id ∧ q.learnt = r.learnt ∧ OwnI w 0 (.slice q.A q.n q.c) r.lits ∧ ∀ k, (Value.slice q.A q.n q.c).ownBlock = some k → ¬ F k
def RowsK (F : Nat → Prop) (w : World) (v : Value) (R : List ARow) : Prop :=
  ∃ us : List KRow, us.length = R.length ∧ OwnV w 0 72 5 v R.length (us.flatMap encK) ∧ (∀ k, v.ownBlock = some k → ¬ F k) ∧ ∀ (j : Nat) (r : ARow) (q : KRow), R[j]? = some r → us[j]? = some q → KIs F w q r
section
variable {F G : Nat → Prop} {w w' : World} {v : Value} {R : List ARow}
theorem KIs.stay {q : KRow} {r : ARow} (h : KIs F w q r) (hs : Stay F w w') : KIs F w' q r := ⟨h.1, h.2.1, h.2.2.1.stay hs h.2.2.2, h.2.2.2⟩
theorem KIs.turn {q : KRow} {r : ARow} (h : KIs F w q r) (hG : ∀ k, G k → F k ∨ w.heap.size ≤ k) : KIs G w q r :=
  ⟨h.1, h.2.1, h.2.2.1, fun k e hk => by
    rcases hG k hk with hf | hf
    · exact h.2.2.2 k e hf
    · have := (h.2.2.1.blk k e).2; omega⟩
theorem RowsK.nil (F : Nat → Prop) (w : World) : RowsK F w (.slice none 0 0) [] := ⟨[], rfl, OwnV.nil _ _ _ _, fun k e => (by cases e), fun j r q h => by simp at h⟩
theorem RowsK.stay (h : RowsK F w v R) (hs : Stay F w w') : RowsK F w' v R := by
  obtain ⟨us, h1, h2, h3, h4⟩ := h
  exact ⟨us, h1, h2.stay hs h3, h3, fun j r q hr hq => (h4 j r q hr hq).stay hs⟩
theorem RowsK.ext (h : RowsK F w v R) (hx : Ext w w') : RowsK F w' v R := h.stay (Ext.stay hx)
theorem RowsK.turn (h : RowsK F w v R) (hG : ∀ k, G k → F k ∨ w.heap.size ≤ k) : RowsK G w v R := by
  obtain ⟨us, h1, h2, h3, h4⟩ := h
  refine ⟨us, h1, h2, fun k e hk => ?_, fun j r q hr hq => (h4 j r q hr hq).turn hG⟩
  rcases hG k hk with hf | hf
  · exact h3 k e hf
  · have := (h2.blk k e).2; omega
theorem RowsK.len (h : RowsK F w v R) : ∃ A c, v = .slice A R.length c ∧ R.length ≤ c := by
  obtain ⟨us, h1, h2, _⟩ := h
  exact h2.len
/-- The kept row at k. -/
theorem RowsK.at_ {A : Option Addr} {n c : Nat} (h : RowsK F w (.slice A n c) R) (hn : R.length ≤ 9223372036854775807) {j : Nat} {r : ARow} (hr : R[j]? = some r) : ∃ ad q, A = some ad ∧ KIs F w q r ∧ w.cell? (ad.add (j * 5)) = some (.int .i64 0) ∧ w.cell? ⟨(ad.add (j * 5)).block, (ad.add (j * 5)).off + 1, none⟩ = some (.int .i64 q.id) ∧
    w.cell? ⟨(ad.add (j * 5)).block, (ad.add (j * 5)).off + 2, none⟩ = some (.slice q.A q.n q.c) ∧ w.cell? ⟨(ad.add (j * 5)).block, (ad.add (j * 5)).off + 3, none⟩ = some (.bool q.learnt) ∧ w.cell? ⟨(ad.add (j * 5)).block, (ad.add (j * 5)).off + 4, none⟩ = some (.bool false) := by
  obtain ⟨us, h1, h2, h3, h4⟩ := h
  have hj := (List.getElem?_eq_some_iff.1 hr).1
  obtain ⟨A', c', e, hs, _⟩ := h2.sl hn
  injection e with e1 e2 e3
  subst e1
  obtain ⟨ad, rfl, hc⟩ := hs.2.2 (by omega)
  have hu : us[j]? = some us[j] := List.getElem?_eq_getElem (by omega)
  refine ⟨ad, us[j], rfl, h4 j r _ hr hu, hc _ _ (flat_get encK_len hu (k := 0) (by decide)), ?_, ?_, ?_, ?_⟩
  · rw [← add_pos15 _ _ _ (by decide)]; exact hc _ _ (flat_get encK_len hu (k := 1) (by decide))
  · rw [← add_pos15 _ _ _ (by decide)]; exact hc _ _ (flat_get encK_len hu (k := 2) (by decide))
  · rw [← add_pos15 _ _ _ (by decide)]; exact hc _ _ (flat_get encK_len hu (k := 3) (by decide))
  · rw [← add_pos15 _ _ _ (by decide)]; exact hc _ _ (flat_get encK_len hu (k := 4) (by decide))
end
theorem IntSl.old {w : World} {A : Option Addr} {n : Nat} {xs : List Int} (h : IntSl w A n xs) (hn : 0 < n) (ad : Addr) (e : A = some ad) : ad.block < w.heap.size := by
  obtain ⟨ad', e', hc⟩ := h.2.2.2 hn
  rw [e] at e'
  cases e'
  have hl : 0 < xs.length := by have := h.1; omega
  have := hc 0 _ (List.getElem?_eq_getElem hl)
  have := World.block_lt_of_cell? _ _ this
  rwa [block_add] at this
/-- One row more. -/
theorem RowsK.snoc {F : Nat → Prop} {w w' : World} {v v' : Value} {R : List ARow} {r : ARow} {q : KRow} (h : RowsK F w v R) (hq : KIs F w' q r)
    (hv : ∀ us : List KRow, us.length = R.length → OwnV w 0 72 5 v R.length (us.flatMap encK) → OwnV w' 0 72 5 v' (R.length + 1) (us.flatMap encK ++ encK q)) (ho : ∀ k, v'.ownBlock = some k → ¬ F k) (hk : ∀ (r : ARow) (q : KRow), KIs F w q r → KIs F w' q r) : RowsK F w' v' (R ++ [r]) := by
  obtain ⟨us, h1, h2, h3, h4⟩ := h
  refine ⟨us ++ [q], by simp [h1], ?_, ho, fun j r' q' hr hq' => ?_⟩
  · rw [List.length_append, List.flatMap_append, show [q].flatMap encK = encK q by simp]
    exact hv us h1 h2
  · by_cases hj : j < R.length
    · rw [List.getElem?_append_left hj] at hr
      rw [List.getElem?_append_left (by omega)] at hq'
      exact hk r' q' (h4 j r' q' hr hq')
    · rw [List.getElem?_append_right (by omega)] at hr
      rw [List.getElem?_append_right (by omega)] at hq'
      have e0 : j - R.length = 0 := by have := (List.getElem?_eq_some_iff.1 hr).1; simp at this; omega
      rw [h1, e0] at hq'
      rw [e0] at hr
      simp at hr hq'
      subst hr hq'
      exact hq
end Go.Proofs.Ytbkimfefbdfkbaa
