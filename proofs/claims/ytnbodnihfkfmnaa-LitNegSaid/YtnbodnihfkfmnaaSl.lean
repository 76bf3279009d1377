/- A slice of numbers that reads as a list; what keeps it. Plain lemmas on the model's memory. -/
import Derived.Test.YtnbodnihfkfmnaaBase
import Derived.Below
import Derived.Laws.OwnMore
import Derived.Deep.Draws
namespace Go.Proofs.Ytnbodnihfkfmnaa
open Go.RowKit

/-- The slice value of base A, length n reads in w as the numbers xs, each an int64, no more than an int can count. -/
def IntSl (w : World) (A : Option Addr) (n : Nat) (xs : List Int) : Prop :=
  xs.length = n ∧ n ≤ 9223372036854775807 ∧ (∀ x ∈ xs, -9223372036854775808 ≤ x ∧ x ≤ 9223372036854775807) ∧
  (0 < n → ∃ ad, A = some ad ∧ ∀ j x, xs[j]? = some x → w.cell? (ad.add j) = some (.int .i64 x))

/-- Nothing that was there has turned. -/
def Ext (w w' : World) : Prop := Below w.heap.size w w'
theorem Ext.refl (w : World) : Ext w w := Below.refl _ _
theorem Ext.trans {a b c : World} (h : Ext a b) (k : Ext b c) : Ext a c := Below.trans h (Below.mono k h.size)
theorem Ext.drew {a w : World} (h : Ext a w) : Ext a w.drew := Below.drew h
theorem Ext.drewN {a w : World} (h : Ext a w) (n : Nat) : Ext a (w.drewN n) := ⟨h.os, h.tape, h.output, h.size, h.block⟩
theorem Ext.alloc {a w : World} (h : Ext a w) (o : Obj) : Ext a (w.alloc o) := Below.alloc h h.size o
theorem Ext.setCell {a w : World} (h : Ext a w) {p : Addr} (hp : a.heap.size ≤ p.block) (u : Value) : Ext a (w.setCell p u) := Below.setCell h hp u
theorem Ext.grown {a w w' : World} {row : Option Nat} (h : Ext a w) (hg : w.grownBy w' row) (hr : ∀ k, row = some k → a.heap.size ≤ k) : Ext a w' := Below.grown h hg h.size hr
theorem Ext.size_le {w w' : World} (h : Ext w w') : w.heap.size ≤ w'.heap.size := Below.size h
theorem Ext.cell {w w' : World} (h : Ext w w') {p : Addr} {v : Value} (hp : w.cell? p = some v) : w'.cell? p = some v :=
  (Below.cell h (World.block_lt_of_cell? w p hp)).trans hp
theorem Ext.frozen {w w' : World} (h : Ext w w') {p : Addr} {v : Value} (hp : w.cell? p = some v) : w'.frozen? p = w.frozen? p :=
  Below.frozen h (World.block_lt_of_cell? w p hp)

section
variable {w w' : World} {A : Option Addr} {n : Nat} {xs : List Int}
theorem IntSl.ext (h : IntSl w A n xs) (hx : Ext w w') : IntSl w' A n xs :=
  ⟨h.1, h.2.1, h.2.2.1, fun hn => let ⟨ad, e, hc⟩ := h.2.2.2 hn; ⟨ad, e, fun j x hj => hx.cell (hc j x hj)⟩⟩
theorem IntSl.nil (w : World) : IntSl w none 0 [] := ⟨rfl, by decide, by simp, fun h => absurd h (by omega)⟩
theorem IntSl.len (h : IntSl w A n xs) : n ≤ 9223372036854775807 := h.2.1
theorem IntSl.at_ (h : IntSl w A n xs) {k : Nat} (hk : k < n) :
    ∃ ad x, A = some ad ∧ Hid (xs[k]? = some x) ∧ w.cell? (ad.add k) = some (.int .i64 x) ∧ -9223372036854775808 ≤ x ∧ x ≤ 9223372036854775807 := by
  obtain ⟨ad, e, hc⟩ := h.2.2.2 (by omega)
  have hl : k < xs.length := by have := h.1; omega
  have hx : xs[k]? = some xs[k] := List.getElem?_eq_getElem hl
  exact ⟨ad, xs[k], e, Lib.hid hx, hc k _ hx, h.2.2.1 _ (List.getElem_mem hl)⟩
end

theorem take_succ_of {α : Type} {l : List α} {k : Nat} {x : α} (h : l[k]? = some x) : l.take (k + 1) = l.take k ++ [x] := by
  rw [List.take_add_one, h]; rfl
theorem take_len_of {α : Type} {l : List α} {k n : Nat} (h : l.length = n) (hk : ¬ k < n) : l.take k = l := List.take_of_length_le (by omega)
end Go.Proofs.Ytnbodnihfkfmnaa
