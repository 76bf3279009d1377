/- A slice of slices that the call builds: it owns its row of headers; the rows lie in an older world. -/
import Derived.Test.YtdgflniahoidmaaGreatApp
import Derived.Test.YtdgflniahoidmaaGreatSl
set_option maxRecDepth 100000
namespace Go.Proofs.YtdgflniahoidmaaGreat
open Go.RowKit

theorem infoR : (Tryz.prog.info? 42).map (fun i => (i.zero, i.size, i.bytes)) = some (some (.slice none 0 0), 1, 24) := by kernel_rfl

def OwnR (w0 w : World) (base : Nat) (v : Value) (L : List (List Int)) : Prop :=
  ∃ vs : List Value, w.ownsRow base 42 1 v vs.length vs ∧ vs.length = L.length ∧ ∀ (j : Nat) (xs : List Int), L[j]? = some xs → ∃ A n c, vs[j]? = some (.slice A n c) ∧ IntSl w0 A n xs

section
variable {w0 w w' : World} {base : Nat} {v : Value} {L : List (List Int)}
theorem OwnR.nil (w0 w : World) (base : Nat) : OwnR w0 w base (.slice none 0 0) [] := ⟨[], World.ownsRow_nil _ _ _ _, rfl, fun _ _ h => by simp at h⟩
theorem OwnR.alloc (h : OwnR w0 w base v L) (o : Obj) : OwnR w0 (w.alloc o) base v L := let ⟨vs, a, b, c⟩ := h; ⟨vs, World.ownsRow.alloc a o, b, c⟩
theorem OwnR.drewN (h : OwnR w0 w base v L) (n : Nat) : OwnR w0 (w.drewN n) base v L := h
theorem OwnR.kept {row : Option Nat} (h : OwnR w0 w base v L) (hg : w.grownBy w' row) (hne : v.ownBlock = none ∨ v.ownBlock ≠ row) : OwnR w0 w' base v L :=
  let ⟨vs, a, b, c⟩ := h; ⟨vs, World.ownsRow.kept a hg hne, b, c⟩
theorem OwnR.ext (h : OwnR w0 w base v L) (hx : Ext w w') : OwnR w0 w' base v L := by
  obtain ⟨vs, a, b, c⟩ := h
  refine ⟨vs, ⟨a.1, ?_⟩, b, c⟩
  rcases a.2 with hn | ⟨g, cap, cur, rfl, hb, hgg, rest⟩
  · exact .inl hn
  · exact .inr ⟨g, cap, cur, rfl, hb, (hx.block g (Array.getElem?_eq_some_iff.1 hgg).1).trans hgg, rest⟩
theorem OwnR.later {w1 : World} (h : OwnR w0 w base v L) (hx : Ext w0 w1) : OwnR w1 w base v L :=
  let ⟨vs, a, b, c⟩ := h; ⟨vs, a, b, fun j xs hj => let ⟨A, n, c', h1, h2⟩ := c j xs hj; ⟨A, n, c', h1, h2.ext hx⟩⟩
theorem OwnR.blk (h : OwnR w0 w base v L) : ∀ k, v.ownBlock = some k → base ≤ k ∧ k < w.heap.size := let ⟨_, a, _, _⟩ := h; World.ownsRow.lt a
theorem OwnR.sl (h : OwnR w0 w base v L) (hx : Ext w0 w) (hn : L.length ≤ 9223372036854775807) : ∃ A n c, v = .slice A n c ∧ RowsSl w A n L ∧ n ≤ c := by
  obtain ⟨vs, h0, hl, hr⟩ := h
  rcases h0.2 with ⟨rfl, h1⟩ | ⟨g, cap, cur, rfl, hb, hgg, hc, _⟩
  · have : L = [] := List.eq_nil_of_length_eq_zero (by omega)
    subst this
    exact ⟨none, 0, 0, rfl, RowsSl.nil w, Nat.le_refl _⟩
  · refine ⟨_, _, _, rfl, ⟨hl.symm, by omega, fun _ => ⟨_, rfl, fun j xs hj => ?_⟩⟩, hc⟩
    obtain ⟨A, n, c, h1, h2⟩ := hr j xs hj
    exact ⟨A, n, c, h0.cells (g := g) rfl j _ h1, h2.ext hx⟩
end

theorem slice_oneCell (A : Option Addr) (n c : Nat) : (Value.slice A n c).oneCell' = true := rfl

/-- 'append(v, y)': the row y was laid in a block of its own. -/
theorem appendR1 (w0 w : World) {ops : Array Oper} {rest : List Oper} {o : Oper} {a : Act} {Q : Exit → Act → World → Prop} (hgd : o.guard = none) (s x : Operand)
    (ho : o.op = .call { callee := .builtin .append, args := #[s, x], argTypes := #[22, 22] })
    (base : Nat) (v : Value) (L : List (List Int)) (hs : a.eval s = v) (hown : OwnR w0 w base v L) (ad : Addr) (c : Nat) (A : Option Addr) (n c' : Nat) (y : List Int) (hx : a.eval x = .slice (some ad) 1 c) (hc : w.cell? ad = some (.slice A n c'))
    (hy : IntSl w0 A n y) (hb : L.length + 1 ≤ 1000000000000) (hbase : base ≤ w.heap.size)
    (h : ∀ v' w', OwnR w0 w' base v' (L ++ [y]) → w.grownBy w' v.ownBlock → (v'.ownBlock = v.ownBlock ∨ v'.ownBlock = some w.heap.size) → wpList Tryz.prog ops Q rest (a.put o.dst v') w') : wpList Tryz.prog ops Q (o :: rest) a w := by
  obtain ⟨i, hi, hz, h1, h2⟩ := info_parts infoR
  obtain ⟨vs, hw, hl, hr⟩ := hown
  refine wpList_plain hgd fun K hK => ?_
  obtain ⟨v', w', hrun, g1, g2, _, g3⟩ := run_append_own_at (P := Tryz.prog) w base 22 o.type 42 i (.slice none 0 0) 1 24 Tryz.underlying22 hi hz h1 h2 rfl (by decide) v vs.length _ hw ad 1 c [.slice A n c'] (by simp) (fun j u hj => by
    cases j with
    | zero => simp at hj; subst hj; simpa [Addr.add] using hc
    | succ j => simp at hj) (by intro u hu; rw [List.mem_singleton.1 hu]; rfl) (by unfold maxLen; omega) (by omega) hbase
  unfold Oper.wp execOp
  simp only [ho, resolve, invoke, builtin, Sem.run_bind, Sem.run_pure, Result.andThen_ok, List.map_toArray, List.map_cons, List.map_nil, hs, hx, hrun]
  refine hK _ _ (h v' w' ⟨vs ++ [.slice A n c'], ?_, by simp [hl], ?_⟩ g2 g3)
  · rw [List.length_append]; exact g1
  · intro j xs hj
    by_cases hjl : j < L.length
    · rw [List.getElem?_append_left hjl] at hj
      obtain ⟨A1, n1, c1, e1, e2⟩ := hr j xs hj
      exact ⟨A1, n1, c1, by rw [List.getElem?_append_left (by omega)]; exact e1, e2⟩
    · rw [List.getElem?_append_right (by omega)] at hj
      have : j - L.length = 0 := by have := (List.getElem?_eq_some_iff.1 hj).1; simp at this; omega
      rw [this] at hj
      simp at hj
      subst hj
      exact ⟨A, n, c', by rw [List.getElem?_append_right (by omega), hl, this]; rfl, hy⟩
end Go.Proofs.YtdgflniahoidmaaGreat
