/- append to a slice of numbers that the call itself owns: one number; another slice's numbers. -/
import Derived.Test.YtdgflniahoidmaaGreatSl
import Derived.Maps.AppendAt
import Derived.OwnWalk
import Derived.DataElems
import Derived.Laws.Cover3
set_option maxRecDepth 100000
namespace Go.Proofs.YtdgflniahoidmaaGreat
open Go.RowKit

theorem infoI : (Tryz.prog.info? 3).map (fun i => (i.zero, i.size, i.bytes)) = some (some (.int .i64 0), 1, 8) := by kernel_rfl

/-- The slice value v owns the numbers xs, in a block from base on. -/
def OwnI (w : World) (base : Nat) (v : Value) (xs : List Int) : Prop := w.ownsRow base 3 1 v xs.length (xs.map (Value.int .i64))

section
variable {w w' : World} {base : Nat} {v : Value} {xs : List Int}
theorem OwnI.nil (w : World) (base : Nat) : OwnI w base (.slice none 0 0) [] := World.ownsRow_nil _ _ _ _
theorem OwnI.alloc (h : OwnI w base v xs) (o : Obj) : OwnI (w.alloc o) base v xs := World.ownsRow.alloc h o
theorem OwnI.drewN (h : OwnI w base v xs) (n : Nat) : OwnI (w.drewN n) base v xs := h
theorem OwnI.kept {row : Option Nat} (h : OwnI w base v xs) (hg : w.grownBy w' row) (hne : v.ownBlock = none ∨ v.ownBlock ≠ row) : OwnI w' base v xs := World.ownsRow.kept h hg hne
theorem OwnI.ext (h : OwnI w base v xs) (hx : Ext w w') : OwnI w' base v xs := by
  refine ⟨h.1, ?_⟩
  rcases h.2 with hn | ⟨g, cap, cur, rfl, hb, hgg, rest⟩
  · exact .inl hn
  · exact .inr ⟨g, cap, cur, rfl, hb, (hx.block g (Array.getElem?_eq_some_iff.1 hgg).1).trans hgg, rest⟩
theorem OwnI.sl (h : OwnI w base v xs) (hn : xs.length ≤ 9223372036854775807) (hx : ∀ x ∈ xs, -9223372036854775808 ≤ x ∧ x ≤ 9223372036854775807) : ∃ A n c, v = .slice A n c ∧ IntSl w A n xs := by
  have h0 : w.ownsRow base 3 1 v xs.length (xs.map (Value.int .i64)) := h
  rcases h.2 with ⟨rfl, h1⟩ | ⟨g, cap, cur, rfl, hb, hgg, _⟩
  · have : xs = [] := List.eq_nil_of_length_eq_zero h1
    subst this
    exact ⟨none, 0, 0, rfl, IntSl.nil w⟩
  · refine ⟨_, _, _, rfl, rfl, hn, hx, fun _ => ⟨_, rfl, fun j x hj => ?_⟩⟩
    exact h0.cells (g := g) rfl j _ (by rw [List.getElem?_map, hj]; rfl)
theorem OwnI.blk (h : OwnI w base v xs) : ∀ k, v.ownBlock = some k → base ≤ k ∧ k < w.heap.size := World.ownsRow.lt h
end

theorem run_append_nil_src {P : Program} (w : World) (base : Nat) (t ty e : TypeId) (i : TypeInfo) (size : Nat) (ht : P.underlying t = some (.slice e)) (hi : P.info? e = some i)
    (v : Value) (n : Nat) (xs : List Value) (hown : w.ownsRow base e size v n xs) (c : Nat) : (Builtin.append_ #[t, t] ty #[v, .slice none 0 c]).run P w = .ok v w := by
  rcases hown.2 with ⟨rfl, rfl⟩ | ⟨g, cap, cur, rfl, _, _, hnc, _⟩
  · simp [Builtin.append_, run_underlying ht, sizeOf, typeInfo, hi, Builtin.lenOf, Builtin.firstCells]
  · simp [Builtin.append_, run_underlying ht, sizeOf, typeInfo, hi, Builtin.lenOf, Builtin.firstCells, hnc, storeCells]

theorem run_appendI (w : World) (ty : TypeId) (base : Nat) (v : Value) (xs : List Int) (hown : OwnI w base v xs) (A : Option Addr) (m c : Nat) (ys : List Int) (hy : IntSl w A m ys)
    (hb : xs.length + m ≤ 10000000000000) (hbase : base ≤ w.heap.size) :
    ∃ v' w', (Builtin.append_ #[42, 42] ty #[v, .slice A m c]).run Tryz.prog w = .ok v' w' ∧ OwnI w' base v' (xs ++ ys) ∧ w.grownBy w' v.ownBlock ∧ (v'.ownBlock = v.ownBlock ∨ v'.ownBlock = some w.heap.size) := by
  obtain ⟨i, hi, hz, h1, h2⟩ := info_parts infoI
  have hlen := hy.1
  have key : ∀ ad, (∀ j u, (ys.map (Value.int .i64))[j]? = some u → w.cell? (ad.add j) = some u) → ∃ v' w', (Builtin.append_ #[42, 42] ty #[v, .slice (some ad) m c]).run Tryz.prog w = .ok v' w' ∧ OwnI w' base v' (xs ++ ys) ∧ w.grownBy w' v.ownBlock ∧ (v'.ownBlock = v.ownBlock ∨ v'.ownBlock = some w.heap.size) := fun ad hcells => by
    obtain ⟨v', w', hrun, g1, g2, _, g3⟩ := run_append_own_at (P := Tryz.prog) w base 42 ty 3 i (.int .i64 0) 1 8 Tryz.underlying42 hi hz h1 h2 rfl (by decide) v xs.length _ hown ad m c (ys.map (Value.int .i64)) (by simp [hlen]) hcells (ints_oneCell _ _) (by unfold maxLen; omega) (by omega) hbase
    refine ⟨v', w', hrun, ?_, g2, g3⟩
    unfold OwnI
    rw [List.length_append, hlen, List.map_append]
    exact g1
  rcases Nat.eq_zero_or_pos m with h0 | h0
  · subst h0
    have hys : ys = [] := List.eq_nil_of_length_eq_zero hlen
    subst hys
    cases A with
    | none => exact ⟨v, w, run_append_nil_src w base 42 ty 3 i 1 Tryz.underlying42 hi v xs.length _ hown c, by simpa using hown, World.grownBy.refl w _, .inl rfl⟩
    | some ad => exact key ad (by simp)
  · obtain ⟨ad, rfl, hc⟩ := hy.2.2.2 h0
    refine key ad fun j u hj => ?_
    rw [List.getElem?_map] at hj
    obtain ⟨x, hx, rfl⟩ := Option.map_eq_some_iff.1 hj
    exact hc j x hx

/-- 'append(v, ys...)'. -/
theorem appendS (w : World) {ops : Array Oper} {rest : List Oper} {o : Oper} {a : Act} {Q : Exit → Act → World → Prop} (hgd : o.guard = none) (s x : Operand)
    (ho : o.op = .call { callee := .builtin .append, args := #[s, x], argTypes := #[42, 42] })
    (base : Nat) (v : Value) (xs : List Int) (hs : a.eval s = v) (hown : OwnI w base v xs) (A : Option Addr) (m c : Nat) (ys : List Int) (hx : a.eval x = .slice A m c) (hy : IntSl w A m ys)
    (hb : xs.length + m ≤ 10000000000000) (hbase : base ≤ w.heap.size)
    (h : ∀ v' w', OwnI w' base v' (xs ++ ys) → w.grownBy w' v.ownBlock → (v'.ownBlock = v.ownBlock ∨ v'.ownBlock = some w.heap.size) → wpList Tryz.prog ops Q rest (a.put o.dst v') w') : wpList Tryz.prog ops Q (o :: rest) a w := by
  refine wpList_plain hgd fun K hK => ?_
  obtain ⟨v', w', hrun, h2, h3, h4⟩ := run_appendI w o.type base v xs hown A m c ys hy hb hbase
  unfold Oper.wp execOp
  simp only [ho, resolve, invoke, builtin, Sem.run_bind, Sem.run_pure, Result.andThen_ok, List.map_toArray, List.map_cons, List.map_nil, hs, hx, hrun]
  exact hK _ _ (h v' w' h2 h3 h4)

/-- 'append(v, y)': y was laid in a block of its own. -/
theorem append1 (w : World) {ops : Array Oper} {rest : List Oper} {o : Oper} {a : Act} {Q : Exit → Act → World → Prop} (hgd : o.guard = none) (s x : Operand)
    (ho : o.op = .call { callee := .builtin .append, args := #[s, x], argTypes := #[42, 42] })
    (base : Nat) (v : Value) (xs : List Int) (hs : a.eval s = v) (hown : OwnI w base v xs) (ad : Addr) (c : Nat) (y : Int) (hx : a.eval x = .slice (some ad) 1 c) (hc : w.cell? ad = some (.int .i64 y))
    (hy : -9223372036854775808 ≤ y ∧ y ≤ 9223372036854775807) (hb : xs.length + 1 ≤ 10000000000000) (hbase : base ≤ w.heap.size)
    (h : ∀ v' w', OwnI w' base v' (xs ++ [y]) → w.grownBy w' v.ownBlock → (v'.ownBlock = v.ownBlock ∨ v'.ownBlock = some w.heap.size) → wpList Tryz.prog ops Q rest (a.put o.dst v') w') : wpList Tryz.prog ops Q (o :: rest) a w :=
  appendS w hgd s x ho base v xs hs hown (some ad) 1 c [y] hx ⟨rfl, by decide, by simpa using hy, fun _ => ⟨ad, rfl, fun j x hj => by
    cases j with
    | zero => simp at hj; subst hj; simpa [Addr.add] using hc
    | succ j => simp at hj⟩⟩ hb hbase h

theorem cell_one (w : World) (u : Value) (T : TypeId) : (w.alloc (.cells #[u] T)).cell? ⟨w.heap.size, 0, none⟩ = some u :=
  cell_of_row (w.alloc (.cells #[u] T)) w.heap.size 0 #[u] T (0, 0) (heap_alloc_new w _)
end Go.Proofs.YtdgflniahoidmaaGreat

/- An empty slice that was just built is owned. -/
namespace Go.Proofs.YtdgflniahoidmaaGreat
open Go.RowKit

theorem own_empty (w : World) : OwnI (w.alloc (.cells #[] 3)) w.heap.size (.slice (some ⟨w.heap.size, 0, none⟩) 0 0) [] :=
  ⟨rfl, .inr ⟨w.heap.size, 0, #[], rfl, Nat.le_refl _, heap_alloc_new w _, Nat.le_refl _, Nat.zero_le _, rfl, rfl⟩⟩
end Go.Proofs.YtdgflniahoidmaaGreat

/- More on slices that the call owns: their length, that two lie apart; one element of a slice. -/
namespace Go.Proofs.YtdgflniahoidmaaGreat
open Go.RowKit

/-- The length of a slice value. -/
def slen : Value → Nat | .slice _ n _ => n | _ => 0
theorem OwnI.slen {w : World} {base : Nat} {v : Value} {xs : List Int} (h : OwnI w base v xs) : slen v = xs.length := by
  rcases h.2 with ⟨rfl, h1⟩ | ⟨g, cap, cur, rfl, _⟩
  · exact h1.symm
  · rfl

theorem OwnI.less {w : World} {a b : Nat} {v : Value} {xs : List Int} (h : OwnI w b v xs) (hab : a ≤ b) : OwnI w a v xs := by
  refine ⟨h.1, ?_⟩
  rcases h.2 with hn | ⟨g, cap, cur, rfl, hb, rest⟩
  · exact .inl hn
  · exact .inr ⟨g, cap, cur, rfl, by omega, rest⟩

/-- Two slices that lie apart. -/
def Apart (a b : Value) : Prop := a.ownBlock = none ∨ b.ownBlock = none ∨ a.ownBlock ≠ b.ownBlock
theorem Apart.symm {a b : Value} (h : Apart a b) : Apart b a := by
  rcases h with h | h | h
  · exact Or.inr (Or.inl h)
  · exact Or.inl h
  · exact Or.inr (Or.inr (Ne.symm h))
theorem Apart.kept {a b : Value} (h : Apart a b) : a.ownBlock = none ∨ a.ownBlock ≠ b.ownBlock := by
  rcases h with h | h | h
  · exact Or.inl h
  · cases e : a.ownBlock with
    | none => exact Or.inl rfl
    | some k => exact Or.inr (by rw [h]; simp)
  · exact Or.inr h
theorem Apart.grow {a a' b : Value} {m : Nat} (h : Apart a b) (hl : a'.ownBlock = a.ownBlock ∨ a'.ownBlock = some m) (hb : ∀ k, b.ownBlock = some k → k < m) : Apart a' b := by
  rcases hl with hl | hl
  · unfold Apart; rw [hl]; exact h
  · cases e : b.ownBlock with
    | none => exact Or.inr (Or.inl e)
    | some k => exact Or.inr (Or.inr (by rw [hl, e]; have := hb k e; simp; omega))
theorem OwnI.row_ne {w : World} {base b : Nat} {v : Value} {xs : List Int} (h : OwnI w base v xs) (hb : b < base) : some b ≠ v.ownBlock := fun e => by
  have := h.blk b e.symm
  omega
theorem OwnI.map_ne {w : World} {base b : Nat} {v : Value} {xs : List Int} (h : OwnI w base v xs) (hb : b < base) : v.ownBlock = none ∨ v.ownBlock ≠ some b := Or.inr fun e => h.row_ne hb e.symm

theorem OwnI.form {w : World} {base : Nat} {v : Value} {xs : List Int} (h : OwnI w base v xs) : ∃ A n c, v = .slice A n c := by
  rcases h.2 with ⟨rfl, _⟩ | ⟨g, cap, cur, rfl, _⟩ <;> exact ⟨_, _, _, rfl⟩
theorem OwnI.slc {w : World} {base : Nat} {v : Value} {xs : List Int} (h : OwnI w base v xs) (hn : xs.length ≤ 9223372036854775807) (hx : ∀ x ∈ xs, -9223372036854775808 ≤ x ∧ x ≤ 9223372036854775807) : ∃ A n c, v = .slice A n c ∧ IntSl w A n xs ∧ n ≤ c := by
  have h0 : w.ownsRow base 3 1 v xs.length (xs.map (Value.int .i64)) := h
  rcases h.2 with ⟨rfl, h1⟩ | ⟨g, cap, cur, rfl, hb, hgg, hc, _⟩
  · have : xs = [] := List.eq_nil_of_length_eq_zero h1
    subst this
    exact ⟨none, 0, 0, rfl, IntSl.nil w, Nat.le_refl _⟩
  · refine ⟨_, _, _, rfl, ⟨rfl, hn, hx, fun _ => ⟨_, rfl, fun j x hj => ?_⟩⟩, hc⟩
    exact h0.cells (g := g) rfl j _ (by rw [List.getElem?_map, hj]; rfl)
theorem IntSl.one {w : World} {ad : Addr} {n k : Nat} {xs : List Int} {x : Int} (h : IntSl w (some ad) n xs) (hx : xs[k]? = some x) : IntSl w (some (ad.add k)) 1 [x] := by
  have hk : k < xs.length := (List.getElem?_eq_some_iff.1 hx).1
  obtain ⟨_, e, hc⟩ := h.2.2.2 (by have := h.1; omega)
  cases e
  refine ⟨rfl, by decide, ?_, fun _ => ⟨_, rfl, fun j y hj => ?_⟩⟩
  · intro y hy
    rw [List.mem_singleton.1 hy]
    exact h.2.2.1 _ (List.mem_of_getElem? hx)
  · have hj0 : j = 0 := by have := (List.getElem?_eq_some_iff.1 hj).1; simp at this; omega
    subst hj0
    simp at hj
    subst hj
    have e0 : (ad.add k).add 0 = ad.add k := by rw [Addr.add_add]; rfl
    rw [e0]
    exact hc k _ hx
end Go.Proofs.YtdgflniahoidmaaGreat

/- slices.Clone of numbers: what comes is owned. -/
namespace Go.Proofs.YtdgflniahoidmaaGreat
open Go.RowKit

theorem run_eql_sl_nil (A : Option Addr) (n c : Nat) (w : World) : (binOp .eql 42 (.slice A n c) (.slice none 0 0)).run Tryz.prog w = .ok (.bool A.isNone) w := by
  simp only [binOp]
  simp [run_equal_slice_nil w 42 3 A n c Tryz.underlying42]

/-- It hands back a slice that the call owns; nothing old has turned. -/
def RetOwn (xs : List Int) (w : World) (e : Ending) (w' : World) : Prop := ∃ v, e = .returned v ∧ OwnI w' w.heap.size v xs ∧ Ext w w'

theorem clone_c (A : Option Addr) (n c : Nat) (xs : List Int) (w : World) (h : IntSl w A n xs) (hsm : n ≤ 1000000000000) :
    Calls Tryz.prog 33 #[.slice A n c] w (RetOwn xs w) := by
  cases A with
  | none =>
    have hn : n = 0 := by
      rcases Nat.eq_zero_or_pos n with e | e
      · exact e
      · obtain ⟨ad, e, _⟩ := h.2.2.2 e
        cases e
    subst hn
    have hx : xs = [] := List.eq_nil_of_length_eq_zero h.1
    subst hx
    have he1 := fun (c : Nat) (W : World) => run_eql_sl_nil none 0 c W
    go_enter Tryz.func33, Tryz.ntmps33
    go_wp2
    go_ret
    exact ⟨_, rfl, OwnI.nil _ _, Ext.refl _⟩
  | some ad =>
    have he1 := fun (W : World) => run_eql_sl_nil (some ad) n c W
    go_enter Tryz.func33, Tryz.ntmps33
    go_wp2_with (at_builtin; refine appendS _ rfl (.tmp 5) (.tmp 6) rfl w.heap.size _ [] rfl (own_empty w) _ _ _ xs rfl (h.ext ((Ext.refl _).alloc _)) (by simp; omega) (by simp) ?_; intro v5 w5 ho5 hg5 hloc; clear hloc; have HO5 := Lib.hid ho5; have HX5 : Hid (Ext w w5) := Ext.grown ((Ext.refl _).alloc _) hg5 (fun j hj => by have := (own_empty w).blk j hj; omega); clear ho5 hg5)
    go_ret
    exact ⟨_, rfl, by simpa using HO5.out, HX5.out⟩
end Go.Proofs.YtdgflniahoidmaaGreat

/- append to a slice of truths that the call itself owns (the twin of XApp). -/
namespace Go.Proofs.YtdgflniahoidmaaGreat
open Go.RowKit

theorem bools_oneCell (zs : List Bool) : ∀ u ∈ zs.map Value.bool, u.oneCell' = true := by
  intro u hu
  obtain ⟨_, _, rfl⟩ := List.mem_map.1 hu
  rfl
theorem infoB : (Tryz.prog.info? 4).map (fun i => (i.zero, i.size, i.bytes)) = some (some (.bool false), 1, 1) := by kernel_rfl

/-- The slice value v owns the numbers xs, in a block from base on. -/
def OwnB (w : World) (base : Nat) (v : Value) (xs : List Bool) : Prop := w.ownsRow base 4 1 v xs.length (xs.map (Value.bool))

section
variable {w w' : World} {base : Nat} {v : Value} {xs : List Bool}
theorem OwnB.nil (w : World) (base : Nat) : OwnB w base (.slice none 0 0) [] := World.ownsRow_nil _ _ _ _
theorem OwnB.alloc (h : OwnB w base v xs) (o : Obj) : OwnB (w.alloc o) base v xs := World.ownsRow.alloc h o
theorem OwnB.drewN (h : OwnB w base v xs) (n : Nat) : OwnB (w.drewN n) base v xs := h
theorem OwnB.kept {row : Option Nat} (h : OwnB w base v xs) (hg : w.grownBy w' row) (hne : v.ownBlock = none ∨ v.ownBlock ≠ row) : OwnB w' base v xs := World.ownsRow.kept h hg hne
theorem OwnB.ext (h : OwnB w base v xs) (hx : Ext w w') : OwnB w' base v xs := by
  refine ⟨h.1, ?_⟩
  rcases h.2 with hn | ⟨g, cap, cur, rfl, hb, hgg, rest⟩
  · exact .inl hn
  · exact .inr ⟨g, cap, cur, rfl, hb, (hx.block g (Array.getElem?_eq_some_iff.1 hgg).1).trans hgg, rest⟩
theorem OwnB.sl (h : OwnB w base v xs) (hn : xs.length ≤ 9223372036854775807) : ∃ A n c, v = .slice A n c ∧ BoolSl w A n xs := by
  have h0 : w.ownsRow base 4 1 v xs.length (xs.map (Value.bool)) := h
  rcases h.2 with ⟨rfl, h1⟩ | ⟨g, cap, cur, rfl, hb, hgg, _⟩
  · have : xs = [] := List.eq_nil_of_length_eq_zero h1
    subst this
    exact ⟨none, 0, 0, rfl, BoolSl.nil w⟩
  · refine ⟨_, _, _, rfl, rfl, hn, fun _ => ⟨_, rfl, fun j x hj => ?_⟩⟩
    exact h0.cells (g := g) rfl j _ (by rw [List.getElem?_map, hj]; rfl)
theorem OwnB.blk (h : OwnB w base v xs) : ∀ k, v.ownBlock = some k → base ≤ k ∧ k < w.heap.size := World.ownsRow.lt h
end

end Go.Proofs.YtdgflniahoidmaaGreat

/- Nothing that was there has turned, but for some blocks. Plain lemmas on the model's memory. -/
namespace Go.Proofs.YtdgflniahoidmaaGreat
open Go.RowKit

structure Stay (F : Nat → Prop) (w w' : World) : Prop where
  os : w'.os = w.os
  tape : w'.tape = w.tape
  output : w'.output = w.output
  size : w.heap.size ≤ w'.heap.size
  block : ∀ b, b < w.heap.size → ¬ F b → w'.heap[b]? = w.heap[b]?

section
variable {F G : Nat → Prop} {a b c w w' : World}
theorem Stay.refl (F : Nat → Prop) (w : World) : Stay F w w := ⟨rfl, rfl, rfl, Nat.le_refl _, fun _ _ _ => rfl⟩
theorem Ext.stay (h : Ext w w') : Stay F w w' := ⟨Below.os h, Below.tape h, Below.output h, Below.size h, fun b hb _ => Below.block h b hb⟩
theorem Stay.ext (h : Stay F w w') (hF : ∀ b, F b → w.heap.size ≤ b) : Ext w w' := ⟨h.os, h.tape, h.output, h.size, fun b hb => h.block b hb (fun hf => by have := hF b hf; omega)⟩
theorem Stay.trans (h : Stay F a b) (k : Stay G b c) (hG : ∀ j, j < a.heap.size → G j → F j) : Stay F a c :=
  ⟨k.os.trans h.os, k.tape.trans h.tape, k.output.trans h.output, Nat.le_trans h.size k.size, fun j hj hn => (k.block j (Nat.lt_of_lt_of_le hj h.size) (fun hg => hn (hG j hj hg))).trans (h.block j hj hn)⟩
theorem Stay.trans_ext (h : Stay F a b) (k : Ext b c) : Stay F a c := h.trans (Ext.stay (F := fun _ => False) k) (fun _ _ hf => hf.elim)
theorem Stay.ext_trans (h : Ext a b) (k : Stay F b c) : Stay F a c := (Ext.stay h).trans k (fun _ _ hf => hf)
theorem Stay.mono (h : Stay F w w') (hG : ∀ j, j < w.heap.size → F j → G j) : Stay G w w' := ⟨h.os, h.tape, h.output, h.size, fun j hj hn => h.block j hj (fun hf => hn (hG j hj hf))⟩
theorem Stay.drewN (h : Stay F a w) (n : Nat) : Stay F a (w.drewN n) := ⟨h.os, h.tape, h.output, h.size, h.block⟩
theorem Stay.drew (h : Stay F a w) : Stay F a w.drew := ⟨h.os, h.tape, h.output, h.size, h.block⟩
theorem Stay.alloc (h : Stay F a w) (o : Obj) : Stay F a (w.alloc o) := h.trans_ext ((Ext.refl w).alloc o)
theorem Stay.setCell (h : Stay F a w) {p : Addr} (hp : F p.block ∨ a.heap.size ≤ p.block) (u : Value) : Stay F a (w.setCell p u) :=
  ⟨h.os, h.tape, h.output, by rw [World.size_setCell]; exact h.size, fun j hj hn => by
    rw [Below.heap_setCell w p u j (fun e => by subst e; rcases hp with hp | hp; exact hn hp; omega)]; exact h.block j hj hn⟩
theorem Stay.grown {row : Option Nat} (h : Stay F a w) (hg : w.grownBy w' row) (hr : ∀ k, row = some k → F k ∨ a.heap.size ≤ k) : Stay F a w' :=
  ⟨hg.os.trans h.os, hg.tape.trans h.tape, hg.output.trans h.output, Nat.le_trans h.size hg.size, fun j hj hn => by
    rw [hg.block j (Nat.lt_of_lt_of_le hj h.size) (fun e => by rcases hr j e.symm with hp | hp; exact hn hp; omega)]; exact h.block j hj hn⟩
theorem Stay.cell (h : Stay F w w') {p : Addr} {v : Value} (hp : w.cell? p = some v) (hF : ¬ F p.block) : w'.cell? p = some v :=
  (World.cell?_of_block (h.block p.block (World.block_lt_of_cell? w p hp) hF)).trans hp
theorem Stay.blk {g : Nat} {t : TypeId} {cs : Array Value} (h : Stay F w w') (hb : Blk w g t cs) (hF : ¬ F g) : Blk w' g t cs := (h.block g hb.lt hF).trans hb
theorem block_add (ad : Addr) (j : Nat) : (ad.add j).block = ad.block := by unfold Addr.add; split <;> rfl

/-- A slice that lies outside of some blocks. -/
def Out (F : Nat → Prop) (A : Option Addr) : Prop := ∀ ad, A = some ad → ¬ F ad.block
theorem Out.none_ : Out F none := fun _ h => by cases h
theorem Out.mono {A : Option Addr} (h : Out F A) (hG : ∀ j, G j → F j) : Out G A := fun ad e hg => h ad e (hG _ hg)
theorem IntSl.stay {A : Option Addr} {n : Nat} {xs : List Int} (h : IntSl w A n xs) (hs : Stay F w w') (ho : Out F A) : IntSl w' A n xs :=
  ⟨h.1, h.2.1, h.2.2.1, fun hn => let ⟨ad, e, hc⟩ := h.2.2.2 hn; ⟨ad, e, fun j x hj => hs.cell (hc j x hj) (by rw [block_add]; exact ho ad e)⟩⟩
theorem OwnI.stay {base : Nat} {v : Value} {xs : List Int} (h : OwnI w base v xs) (hs : Stay F w w') (ho : ∀ k, v.ownBlock = some k → ¬ F k) : OwnI w' base v xs := by
  refine ⟨h.1, ?_⟩
  rcases h.2 with hn | ⟨g, cap, cur, rfl, hb, hgg, rest⟩
  · exact .inl hn
  · exact .inr ⟨g, cap, cur, rfl, hb, (hs.block g (Array.getElem?_eq_some_iff.1 hgg).1 (ho g rfl)).trans hgg, rest⟩
theorem OwnI.setCell {base : Nat} {v : Value} {xs : List Int} (h : OwnI w base v xs) {p : Addr} (hp : ∀ k, v.ownBlock = some k → k ≠ p.block) (u : Value) : OwnI (w.setCell p u) base v xs :=
  h.stay (F := fun b => b = p.block) ((Stay.refl (fun b => b = p.block) w).setCell (Or.inl rfl) u) (fun k e => hp k e)
theorem Blk.ne_ {g g' : Nat} {t t' : TypeId} {cs cs' : Array Value} (h : Blk w g t cs) (h' : Blk w g' t' cs') (hne : t ≠ t') : g ≠ g' := by
  rintro rfl
  unfold Blk at h h'
  rw [h] at h'
  injection h' with h'
  injection h' with _ ht
  exact hne ht
theorem OwnI.ne_blk {base g : Nat} {v : Value} {xs : List Int} {t : TypeId} {cs : Array Value} (h : OwnI w base v xs) (hg : Blk w g t cs) (hne : 3 ≠ t) : v.ownBlock ≠ some g := by
  rcases h.2 with ⟨rfl, _⟩ | ⟨g', cap, cur, rfl, _, hh, _⟩
  · simp [Value.ownBlock]
  · intro he
    have : g' = g := by simpa [Value.ownBlock] using he
    subst this
    exact Blk.ne_ (t := 3) hh hg hne rfl
theorem Blk.grown {row : Option Nat} {g : Nat} {t : TypeId} {cs : Array Value} (h : Blk w g t cs) (hb : w.grownBy w' row) (hg : some g ≠ row) : Blk w' g t cs := (hb.block g h.lt hg).trans h
end
end Go.Proofs.YtdgflniahoidmaaGreat
