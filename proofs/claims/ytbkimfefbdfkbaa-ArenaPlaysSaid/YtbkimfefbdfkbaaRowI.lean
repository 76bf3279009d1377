/- A row of numbers that an object owns: with room behind it, or clipped. -/
import Derived.Test.YtbkimfefbdfkbaaApp
import Derived.ArgAppend
set_option maxRecDepth 100000
namespace Go.Proofs.Ytbkimfefbdfkbaa
open Go.RowKit

def RowI (w : World) (base : Nat) (v : Value) (xs : List Int) : Prop :=
  (v = .slice none 0 0 ∧ xs = []) ∨ ∃ g cap cur, v = .slice (some ⟨g, 0, none⟩) xs.length cap ∧ base ≤ g ∧ Blk w g 3 cur ∧ xs.length ≤ cap ∧ cap ≤ maxLen ∧ (cur.size = cap ∨ cap = xs.length) ∧ cap ≤ cur.size ∧ cur.toList.take xs.length = xs.map (Value.int .i64)
section
variable {w w' : World} {base : Nat} {v : Value} {xs : List Int}
theorem RowI.of_own (h : OwnI w base v xs) : RowI w base v xs := by
  rcases h.2 with ⟨rfl, h0⟩ | ⟨g, cap, cur, rfl, hb, hg, hc, hm, hs, ht⟩
  · exact Or.inl ⟨rfl, List.eq_nil_of_length_eq_zero h0⟩
  · exact Or.inr ⟨g, cap, cur, rfl, hb, hg, hc, hm, Or.inl (by omega), by omega, by simpa using ht⟩
theorem RowI.keep (h : RowI w base v xs) (e : ∀ k, v.ownBlock = some k → w'.heap[k]? = w.heap[k]?) : RowI w' base v xs := by
  rcases h with h | ⟨g, cap, cur, rfl, hb, hg, rest⟩
  · exact Or.inl h
  · exact Or.inr ⟨g, cap, cur, rfl, hb, hg.keep (e g rfl), rest⟩
theorem RowI.lt (h : RowI w base v xs) : ∀ k, v.ownBlock = some k → base ≤ k ∧ k < w.heap.size := by
  rcases h with ⟨rfl, _⟩ | ⟨g, cap, cur, rfl, hb, hg, _⟩
  · intro k e; cases e
  · intro k e; cases e; exact ⟨hb, hg.lt⟩
theorem RowI.ext (h : RowI w base v xs) (hx : Ext w w') : RowI w' base v xs := h.keep fun k e => hx.block k (h.lt k e).2
theorem RowI.kept {row : Option Nat} (h : RowI w base v xs) (hg : w.grownBy w' row) (hne : v.ownBlock = none ∨ v.ownBlock ≠ row) : RowI w' base v xs := h.keep fun k e => hg.block k (h.lt k e).2 (by
  rcases hne with e2 | e2
  · rw [e] at e2; cases e2
  · rwa [e] at e2)
theorem RowI.form (h : RowI w base v xs) : ∃ A c, v = .slice A xs.length c ∧ xs.length ≤ c := by
  rcases h with ⟨rfl, rfl⟩ | ⟨g, cap, cur, rfl, _, _, hc, _⟩
  · exact ⟨_, _, rfl, Nat.le_refl _⟩
  · exact ⟨_, _, rfl, hc⟩
theorem RowI.full (h : RowI w base v xs) (hn : 0 < xs.length) : ∃ g cap, v = .slice (some ⟨g, 0, none⟩) xs.length cap ∧ xs.length ≤ cap ∧ (∀ (j : Nat) (x : Int), xs[j]? = some x → w.cell? ⟨g, j, none⟩ = some (.int .i64 x)) ∧ (∀ j, w.frozen? ⟨g, j, none⟩ = false) := by
  rcases h with ⟨rfl, rfl⟩ | ⟨g, cap, cur, rfl, _, hg, hc, _, _, _, ht⟩
  · simp at hn
  · refine ⟨g, cap, rfl, hc, fun j x hj => ?_, fun j => hg.frozen j⟩
    have hjl := (List.getElem?_eq_some_iff.1 hj).1
    rw [hg.cell]
    have : (cur.toList.take xs.length)[j]? = some (.int .i64 x) := by rw [ht, List.getElem?_map, hj]; rfl
    rw [List.getElem?_take_of_lt hjl] at this
    simpa using this
theorem RowI.sl (h : RowI w base v xs) (hn : xs.length ≤ 9223372036854775807) (hx : ∀ x ∈ xs, -9223372036854775808 ≤ x ∧ x ≤ 9223372036854775807) : ∃ A c, v = .slice A xs.length c ∧ IntSl w A xs.length xs ∧ xs.length ≤ c := by
  rcases Nat.eq_zero_or_pos xs.length with h0 | h0
  · obtain ⟨A, c, e, hc⟩ := h.form
    exact ⟨A, c, e, ⟨rfl, hn, hx, fun hp => by omega⟩, hc⟩
  · obtain ⟨g, cap, e, hc, hcell, _⟩ := h.full h0
    refine ⟨_, cap, e, ⟨rfl, hn, hx, fun _ => ⟨_, rfl, fun j x hj => ?_⟩⟩, hc⟩
    have e2 : (⟨g, 0, none⟩ : Addr).add j = ⟨g, j, none⟩ := by unfold Addr.add; split <;> simp_all
    rw [e2]; exact hcell j x hj
/-- One number is written. -/
theorem RowI.set {g n cap j : Nat} (h : RowI w base (.slice (some ⟨g, 0, none⟩) n cap) xs) (y : Int) : RowI (w.setCell ⟨g, j, none⟩ (.int .i64 y)) base (.slice (some ⟨g, 0, none⟩) n cap) (xs.set j y) := by
  rcases h with ⟨e, _⟩ | ⟨g', cap', cur, e, hb, hg, hc, hm, ho, hs, ht⟩
  · cases e
  · injection e with e1 e2 e3
    injection e1 with e1
    injection e1 with e1
    subst e1 e2 e3
    refine Or.inr ⟨g, cap, _, by rw [List.length_set], hb, hg.set_ j (.int .i64 y), by rw [List.length_set]; exact hc, hm, by rw [List.length_set, Array.size_setIfInBounds]; exact ho, by rw [Array.size_setIfInBounds]; exact hs, ?_⟩
    rw [List.length_set, List.map_set, ← ht, Array.toList_setIfInBounds, List.take_set]
/-- It has no more room. -/
theorem RowI.clip {g n cap k : Nat} (h : RowI w base (.slice (some ⟨g, 0, none⟩) n cap) xs) (hk : k ≤ xs.length) : RowI w base (.slice (some ⟨g, 0, none⟩) k k) (xs.take k) := by
  rcases h with ⟨e, _⟩ | ⟨g', cap', cur, e, hb, hg, hc, hm, ho, hs, ht⟩
  · cases e
  · injection e with e1 e2 e3
    injection e1 with e1
    injection e1 with e1
    subst e1 e2 e3
    have hl : (xs.take k).length = k := by rw [List.length_take]; omega
    refine Or.inr ⟨g, k, cur, by rw [hl], hb, hg, by omega, by omega, Or.inr hl.symm, by omega, ?_⟩
    rw [hl, List.map_take, ← ht, List.take_take]
    congr 1
    omega

/-- 'append(v, ys...)', where there are numbers to add. -/
theorem run_appendRow (w : World) (ty : TypeId) (base : Nat) (v : Value) (xs : List Int) (h : RowI w base v xs) (ad : Addr) (m c : Nat) (ys : List Int) (hy : IntSl w (some ad) m ys) (hm : 0 < m) (hb : xs.length + m ≤ 10000000000000) (hbase : base ≤ w.heap.size) :
    ∃ v' w', (Builtin.append_ #[33, 33] ty #[v, .slice (some ad) m c]).run Try.prog w = .ok v' w' ∧ OwnI w' base v' (xs ++ ys) ∧ w.grownBy w' v.ownBlock ∧ ∀ k, v'.ownBlock = some k → v.ownBlock = some k ∨ w.heap.size ≤ k := by
  have own : ∀ v, OwnI w base v xs → ∃ v' w', (Builtin.append_ #[33, 33] ty #[v, .slice (some ad) m c]).run Try.prog w = .ok v' w' ∧ OwnI w' base v' (xs ++ ys) ∧ w.grownBy w' v.ownBlock ∧ ∀ k, v'.ownBlock = some k → v.ownBlock = some k ∨ w.heap.size ≤ k := fun v ho => by
    obtain ⟨v', w', hrun, h2, h3, h4⟩ := run_appendI w ty base v xs ho (some ad) m c ys hy hb hbase
    refine ⟨v', w', hrun, h2, h3, fun k hk => ?_⟩
    rcases h4 with e | e
    · exact Or.inl (e ▸ hk)
    · rw [e] at hk; cases hk; exact Or.inr (Nat.le_refl _)
  rcases h with ⟨rfl, rfl⟩ | ⟨g, cap, cur, rfl, hbg, hg, hc, hmx, ho, hs, ht⟩
  · exact own _ (OwnI.nil w base)
  · rcases ho with ho | ho
    · refine own _ ⟨by simp, Or.inr ⟨g, cap, cur, rfl, hbg, hg, hc, hmx, by omega, by simpa using ht⟩⟩
    · subst ho
      obtain ⟨i, hi, hz, h1, h2⟩ := info_parts infoI
      obtain ⟨ad', e, hcells⟩ := hy.2.2.2 hm
      cases e
      obtain ⟨v', w', hrun, h3, h4⟩ := run_append_arg_grows (P := Try.prog) w 33 ty 3 i (.int .i64 0) 1 8 Try.underlying33 hi hz h1 h2 rfl (by decide) ⟨g, 0, none⟩ xs.length xs.length (xs.map (Value.int .i64)) (by simp) (fun j u hj => by
          rw [List.getElem?_map] at hj
          obtain ⟨x, hx, rfl⟩ := Option.map_eq_some_iff.1 hj
          have hjl := (List.getElem?_eq_some_iff.1 hx).1
          have e2 : (⟨g, 0, none⟩ : Addr).add j = ⟨g, j, none⟩ := by unfold Addr.add; split <;> simp_all
          rw [e2, hg.cell]
          have : (cur.toList.take xs.length)[j]? = some (.int .i64 x) := by rw [ht, List.getElem?_map, hx]; rfl
          rw [List.getElem?_take_of_lt hjl] at this
          simpa using this) ad m c (ys.map (Value.int .i64)) (by simp [hy.1]) (fun j u hj => by
          rw [List.getElem?_map] at hj
          obtain ⟨x, hx, rfl⟩ := Option.map_eq_some_iff.1 hj
          exact hcells j x hx) (by omega) (by unfold maxLen; omega) (by omega)
      have hown : OwnI w' w.heap.size v' (xs ++ ys) := by
        unfold OwnI
        rw [List.length_append, hy.1, List.map_append]
        exact h3
      refine ⟨v', w', hrun, hown.less hbase, ⟨h4.os, h4.tape, h4.output, h4.size, fun k hk _ => h4.block k hk (by simp)⟩, fun k hk => Or.inr (hown.blk k hk).1⟩
theorem appendRow (w : World) {ops : Array Oper} {rest : List Oper} {o : Oper} {a : Act} {Q : Exit → Act → World → Prop} (hgd : o.guard = none) (s x : Operand)
    (ho : o.op = .call { callee := .builtin .append, args := #[s, x], argTypes := #[33, 33] })
    (base : Nat) (v : Value) (xs : List Int) (hs : a.eval s = v) (hown : RowI w base v xs) (ad : Addr) (m c : Nat) (ys : List Int) (hx : a.eval x = .slice (some ad) m c) (hy : IntSl w (some ad) m ys) (hm : 0 < m)
    (hb : xs.length + m ≤ 10000000000000) (hbase : base ≤ w.heap.size)
    (h : ∀ v' w', OwnI w' base v' (xs ++ ys) → w.grownBy w' v.ownBlock → (∀ k, v'.ownBlock = some k → v.ownBlock = some k ∨ w.heap.size ≤ k) → wpList Try.prog ops Q rest (a.put o.dst v') w') : wpList Try.prog ops Q (o :: rest) a w := by
  refine wpList_plain hgd fun K hK => ?_
  obtain ⟨v', w', hrun, h2, h3, h4⟩ := run_appendRow w o.type base v xs hown ad m c ys hy hm hb hbase
  unfold Oper.wp execOp
  simp only [ho, resolve, invoke, builtin, Sem.run_bind, Sem.run_pure, Result.andThen_ok, List.map_toArray, List.map_cons, List.map_nil, hs, hx, hrun]
  exact hK _ _ (h v' w' h2 h3 h4)
end
end Go.Proofs.Ytbkimfefbdfkbaa
