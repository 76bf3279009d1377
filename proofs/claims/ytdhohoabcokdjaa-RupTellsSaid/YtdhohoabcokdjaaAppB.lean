/- append to a slice of truths that the call itself owns (the twin of XApp). -/
import Derived.Test.YtdhohoabcokdjaaApp
import Derived.Test.YtdhohoabcokdjaaBoolSl
set_option maxRecDepth 100000
namespace Go.Proofs.Ytdhohoabcokdjaa
open Go.RowKit

theorem bools_oneCell (zs : List Bool) : ∀ u ∈ zs.map Value.bool, u.oneCell' = true := by
  intro u hu
  obtain ⟨_, _, rfl⟩ := List.mem_map.1 hu
  rfl
theorem infoB : (Try.prog.info? 4).map (fun i => (i.zero, i.size, i.bytes)) = some (some (.bool false), 1, 1) := by kernel_rfl

/-- The slice value v owns the numbers xs, in a block from base on. -/
def OwnB (w : World) (base : Nat) (v : Value) (xs : List Bool) : Prop := w.ownsRow base 4 1 v xs.length (xs.map (Value.bool))

section
variable {w w' : World} {base : Nat} {v : Value} {xs : List Bool}
theorem OwnB.nil (w : World) (base : Nat) : OwnB w base (.slice none 0 0) [] := World.ownsRow_nil _ _ _ _
theorem OwnB.alloc (h : OwnB w base v xs) (o : Obj) : OwnB (w.alloc o) base v xs := World.ownsRow.alloc h o
theorem OwnB.drewN (h : OwnB w base v xs) (n : Nat) : OwnB (w.drewN n) base v xs := h
theorem OwnB.kept {row : Option Nat} (h : OwnB w base v xs) (hg : w.grownBy w' row) (hne : v.ownBlock = none ∨ v.ownBlock ≠ row) : OwnB w' base v xs := World.ownsRow.kept h hg hne
theorem OwnB.ext (h : OwnB w base v xs) (hx : Ext w w') : OwnB w' base v xs := by
  refine ⟨h.1, ?_⟩
  rcases h.2 with hn | ⟨g, cap, cur, rfl, hb, hgg, rest⟩
  · exact .inl hn
  · exact .inr ⟨g, cap, cur, rfl, hb, (hx.block g (Array.getElem?_eq_some_iff.1 hgg).1).trans hgg, rest⟩
theorem OwnB.sl (h : OwnB w base v xs) (hn : xs.length ≤ 9223372036854775807) : ∃ A n c, v = .slice A n c ∧ BoolSl w A n xs := by
  have h0 : w.ownsRow base 4 1 v xs.length (xs.map (Value.bool)) := h
  rcases h.2 with ⟨rfl, h1⟩ | ⟨g, cap, cur, rfl, hb, hgg, _⟩
  · have : xs = [] := List.eq_nil_of_length_eq_zero h1
    subst this
    exact ⟨none, 0, 0, rfl, BoolSl.nil w⟩
  · refine ⟨_, _, _, rfl, rfl, hn, fun _ => ⟨_, rfl, fun j x hj => ?_⟩⟩
    exact h0.cells (g := g) rfl j _ (by rw [List.getElem?_map, hj]; rfl)
theorem OwnB.blk (h : OwnB w base v xs) : ∀ k, v.ownBlock = some k → base ≤ k ∧ k < w.heap.size := World.ownsRow.lt h
end

theorem run_appendB (w : World) (ty : TypeId) (base : Nat) (v : Value) (xs : List Bool) (hown : OwnB w base v xs) (A : Option Addr) (m c : Nat) (ys : List Bool) (hy : BoolSl w A m ys)
    (hb : xs.length + m ≤ 10000000000000) (hbase : base ≤ w.heap.size) :
    ∃ v' w', (Builtin.append_ #[45, 45] ty #[v, .slice A m c]).run Try.prog w = .ok v' w' ∧ OwnB w' base v' (xs ++ ys) ∧ w.grownBy w' v.ownBlock ∧ (v'.ownBlock = v.ownBlock ∨ v'.ownBlock = some w.heap.size) := by
  obtain ⟨i, hi, hz, h1, h2⟩ := info_parts infoB
  have hlen := hy.1
  have key : ∀ ad, (∀ j u, (ys.map (Value.bool))[j]? = some u → w.cell? (ad.add j) = some u) → ∃ v' w', (Builtin.append_ #[45, 45] ty #[v, .slice (some ad) m c]).run Try.prog w = .ok v' w' ∧ OwnB w' base v' (xs ++ ys) ∧ w.grownBy w' v.ownBlock ∧ (v'.ownBlock = v.ownBlock ∨ v'.ownBlock = some w.heap.size) := fun ad hcells => by
    obtain ⟨v', w', hrun, g1, g2, _, g3⟩ := run_append_own_at (P := Try.prog) w base 45 ty 4 i (.bool false) 1 1 Try.underlying45 hi hz h1 h2 rfl (by decide) v xs.length _ hown ad m c (ys.map (Value.bool)) (by simp [hlen]) hcells (bools_oneCell _) (by unfold maxLen; omega) (by omega) hbase
    refine ⟨v', w', hrun, ?_, g2, g3⟩
    unfold OwnB
    rw [List.length_append, hlen, List.map_append]
    exact g1
  rcases Nat.eq_zero_or_pos m with h0 | h0
  · subst h0
    have hys : ys = [] := List.eq_nil_of_length_eq_zero hlen
    subst hys
    cases A with
    | none => exact ⟨v, w, run_append_nil_src w base 45 ty 4 i 1 Try.underlying45 hi v xs.length _ hown c, by simpa using hown, World.grownBy.refl w _, .inl rfl⟩
    | some ad => exact key ad (by simp)
  · obtain ⟨ad, rfl, hc⟩ := hy.2.2 h0
    refine key ad fun j u hj => ?_
    rw [List.getElem?_map] at hj
    obtain ⟨x, hx, rfl⟩ := Option.map_eq_some_iff.1 hj
    exact hc j x hx

/-- 'append(v, ys...)'. -/
theorem appendSB (w : World) {ops : Array Oper} {rest : List Oper} {o : Oper} {a : Act} {Q : Exit → Act → World → Prop} (hgd : o.guard = none) (s x : Operand)
    (ho : o.op = .call { callee := .builtin .append, args := #[s, x], argTypes := #[45, 45] })
    (base : Nat) (v : Value) (xs : List Bool) (hs : a.eval s = v) (hown : OwnB w base v xs) (A : Option Addr) (m c : Nat) (ys : List Bool) (hx : a.eval x = .slice A m c) (hy : BoolSl w A m ys)
    (hb : xs.length + m ≤ 10000000000000) (hbase : base ≤ w.heap.size)
    (h : ∀ v' w', OwnB w' base v' (xs ++ ys) → w.grownBy w' v.ownBlock → (v'.ownBlock = v.ownBlock ∨ v'.ownBlock = some w.heap.size) → wpList Try.prog ops Q rest (a.put o.dst v') w') : wpList Try.prog ops Q (o :: rest) a w := by
  refine wpList_plain hgd fun K hK => ?_
  obtain ⟨v', w', hrun, h2, h3, h4⟩ := run_appendB w o.type base v xs hown A m c ys hy hb hbase
  unfold Oper.wp execOp
  simp only [ho, resolve, invoke, builtin, Sem.run_bind, Sem.run_pure, Result.andThen_ok, List.map_toArray, List.map_cons, List.map_nil, hs, hx, hrun]
  exact hK _ _ (h v' w' h2 h3 h4)

/-- 'append(v, y)': y was laid in a block of its own. -/
theorem append1B (w : World) {ops : Array Oper} {rest : List Oper} {o : Oper} {a : Act} {Q : Exit → Act → World → Prop} (hgd : o.guard = none) (s x : Operand)
    (ho : o.op = .call { callee := .builtin .append, args := #[s, x], argTypes := #[45, 45] })
    (base : Nat) (v : Value) (xs : List Bool) (hs : a.eval s = v) (hown : OwnB w base v xs) (ad : Addr) (c : Nat) (y : Bool) (hx : a.eval x = .slice (some ad) 1 c) (hc : w.cell? ad = some (.bool y))
    (hb : xs.length + 1 ≤ 10000000000000) (hbase : base ≤ w.heap.size)
    (h : ∀ v' w', OwnB w' base v' (xs ++ [y]) → w.grownBy w' v.ownBlock → (v'.ownBlock = v.ownBlock ∨ v'.ownBlock = some w.heap.size) → wpList Try.prog ops Q rest (a.put o.dst v') w') : wpList Try.prog ops Q (o :: rest) a w :=
  appendSB w hgd s x ho base v xs hs hown (some ad) 1 c [y] hx ⟨rfl, by decide, fun _ => ⟨ad, rfl, fun j x hj => by
    cases j with
    | zero => simp at hj; subst hj; simpa [Addr.add] using hc
    | succ j => simp at hj⟩⟩ hb hbase h

end Go.Proofs.Ytdhohoabcokdjaa
