/- Slices of truths that a loop writes into. -/
import Derived.Test.YtdgflniahoidmaaSl
import Derived.Test.YtdgflniahoidmaaApp
set_option maxRecDepth 100000
namespace Go.Proofs.Ytdgflniahoidmaa
open Go.RowKit

theorem IntSl.far {w : World} {A : Option Addr} {n : Nat} {xs : List Int} (h : IntSl w A n xs) {p : Addr} (u : Value) (hp : ∀ x, w.cell? p ≠ some (.int .i64 x)) : IntSl (w.setCell p u) A n xs := by
  refine ⟨h.1, h.2.1, h.2.2.1, fun hn => ?_⟩
  obtain ⟨ad, e, hc⟩ := h.2.2.2 hn
  refine ⟨ad, e, fun j x hj => ?_⟩
  have h1 := hc j x hj
  by_cases hne : p = ad.add j
  · rw [← hne] at h1; exact absurd h1 (hp x)
  · rw [World.cell?_setCell_other (h := hne)]; exact h1

/-- A slice of truths of the call's own, as a list. -/
def NB (w : World) (base : Nat) (A : Option Addr) (n : Nat) (m : List Bool) : Prop :=
  m.length = n ∧ (0 < n → ∃ g, A = some ⟨g, 0, none⟩ ∧ base ≤ g ∧ ∃ cur, Blk w g 4 cur ∧ ∀ (j : Nat) (b : Bool), m[j]? = some b → cur[j]? = some (.bool b))
theorem NB.sl {w : World} {base : Nat} {A : Option Addr} {n : Nat} {m : List Bool} (h : NB w base A n m) (hn : n ≤ 9223372036854775807) : BoolSl w A n m := by
  refine ⟨h.1, hn, fun hp => ?_⟩
  obtain ⟨g, e, _, cur, hb, hc⟩ := h.2 hp
  refine ⟨_, e, fun j x hj => ?_⟩
  have e2 : (⟨g, 0, none⟩ : Addr).add j = ⟨g, j, none⟩ := by unfold Addr.add; split <;> simp_all
  rw [e2, hb.cell]; exact hc j x hj
theorem NB.ext {w w' : World} {base : Nat} {A : Option Addr} {n : Nat} {m : List Bool} (h : NB w base A n m) (hx : Ext w w') : NB w' base A n m :=
  ⟨h.1, fun hp => let ⟨g, e, hb, cur, h1, h2⟩ := h.2 hp; ⟨g, e, hb, cur, h1.ext hx, h2⟩⟩
theorem NB.of_own {w : World} {base : Nat} {v : Value} {m : List Bool} (h : OwnB w base v m) : ∃ A c, v = .slice A m.length c ∧ m.length ≤ c ∧ NB w base A m.length m := by
  have h0 : w.ownsRow base 4 1 v m.length (m.map Value.bool) := h
  rcases h.2 with ⟨rfl, h1⟩ | ⟨g, cap, cur, rfl, hb, hgg, hc, _⟩
  · exact ⟨none, 0, by rw [h1], by omega, rfl, fun hp => by omega⟩
  · refine ⟨_, _, rfl, hc, rfl, fun _ => ⟨g, rfl, hb, cur, hgg, fun j b hj => ?_⟩⟩
    have := h0.cells (g := g) rfl j (.bool b) (by rw [List.getElem?_map, hj]; rfl)
    have e2 : (⟨g, 0, none⟩ : Addr).add j = ⟨g, j, none⟩ := by unfold Addr.add; split <;> simp_all
    rw [e2, Blk.cell hgg] at this
    exact this
theorem own_emptyB (w : World) : OwnB (w.alloc (.cells #[] 4)) w.heap.size (.slice (some ⟨w.heap.size, 0, none⟩) 0 0) [] :=
  ⟨rfl, .inr ⟨w.heap.size, 0, #[], rfl, Nat.le_refl _, heap_alloc_new w _, Nat.le_refl _, Nat.zero_le _, rfl, rfl⟩⟩
theorem NB.set {w : World} {base g k n : Nat} {m : List Bool} {b : Bool} (h : NB w base (some ⟨g, 0, none⟩) n m) (hk : k < n) : NB (w.setCell ⟨g, k, none⟩ (.bool b)) base (some ⟨g, 0, none⟩) n (m.set k b) := by
  refine ⟨by rw [List.length_set]; exact h.1, fun hp => ?_⟩
  obtain ⟨g', e, hb, cur, h1, h2⟩ := h.2 hp
  cases e
  refine ⟨g, rfl, hb, _, h1.set_ k _, fun j c hj => ?_⟩
  by_cases e : j = k
  · subst e
    rw [List.getElem?_set_self (by have := h.1; omega)] at hj
    have hjm : j < m.length := by have := h.1; omega
    have hc : cur[j]? = some (.bool m[j]) := h2 j _ (List.getElem?_eq_getElem hjm)
    have hlt := (Array.getElem?_eq_some_iff.1 hc).1
    rw [Array.getElem?_setIfInBounds_self, if_pos hlt]
    cases hj; rfl
  · rw [List.getElem?_set_ne (fun h => e h.symm)] at hj
    rw [Array.getElem?_setIfInBounds_ne (fun h => e h.symm)]
    exact h2 j c hj
theorem appendNB (w0 : World) {ops : Array Oper} {rest : List Oper} {o : Oper} {a : Act} {Q : Exit → Act → World → Prop} (hgd : o.guard = none) (s x : Operand)
    (ho : o.op = .call { callee := .builtin .append, args := #[s, x], argTypes := #[26, 26] })
    (hs : a.eval s = .slice (some ⟨w0.heap.size, 0, none⟩) 0 0) (A : Option Addr) (n c : Nat) (m : List Bool) (hx : a.eval x = .slice A n c) (hy : BoolSl w0 A n m) (hb : n ≤ 10000000000000)
    (h : ∀ A' c' w', NB w' w0.heap.size A' m.length m → Ext w0 w' → wpList Try.prog ops Q rest (a.put o.dst (.slice A' m.length c')) w') : wpList Try.prog ops Q (o :: rest) a (w0.alloc (.cells #[] 4)) := by
  refine appendSB _ hgd s x ho w0.heap.size _ [] hs (own_emptyB w0) A n c m hx (hy.ext ((Ext.refl _).alloc _)) (by simp; omega) (by simp [World.size_alloc]) ?_
  intro v' w7 ho7 hg7 _
  rw [List.nil_append] at ho7
  obtain ⟨A7, c7, rfl, _, hnb⟩ := NB.of_own ho7
  exact h A7 c7 w7 hnb (Ext.grown ((Ext.refl _).alloc _) hg7 (by intro k hk; cases hk; exact Nat.le_refl _))
end Go.Proofs.Ytdgflniahoidmaa
