/- Slices of elements of any one size: read as a list of cells, appended to, an element loaded or stored whole. -/
import Derived.Test.YtdgflniahoidmaaGreatApp
import Derived.DataElems
set_option maxRecDepth 100000
namespace Go.Proofs.YtdgflniahoidmaaGreat
open Go.RowKit

/-- Slice type t of elements e: zero z, so many cells, so many bytes. -/
structure Elt (t e : TypeId) (z : Value) (size bytes : Nat) : Prop where
  und : Tryz.prog.underlying t = some (.slice e)
  inf : (Tryz.prog.info? e).map (fun i => (i.zero, i.size, i.bytes)) = some (some z, size, bytes)
  zs : z.cells.size = size
  pos : 0 < size
  le : bytes ≤ 100

/-- A slice that reads as these cells. -/
def SlV (w : World) (A : Option Addr) (n size : Nat) (us : List Value) : Prop :=
  us.length = n * size ∧ n ≤ 9223372036854775807 ∧ (0 < n → ∃ ad, A = some ad ∧ ∀ (j : Nat) (u : Value), us[j]? = some u → w.cell? (ad.add j) = some u)
section
variable {w w' : World} {A : Option Addr} {n size : Nat} {us : List Value} {F : Nat → Prop}
theorem SlV.ext (h : SlV w A n size us) (hx : Ext w w') : SlV w' A n size us := ⟨h.1, h.2.1, fun hn => let ⟨ad, e, hc⟩ := h.2.2 hn; ⟨ad, e, fun j u hj => hx.cell (hc j u hj)⟩⟩
theorem SlV.stay (h : SlV w A n size us) (hs : Stay F w w') (ho : Out F A) : SlV w' A n size us :=
  ⟨h.1, h.2.1, fun hn => let ⟨ad, e, hc⟩ := h.2.2 hn; ⟨ad, e, fun j u hj => hs.cell (hc j u hj) (by rw [block_add]; exact ho ad e)⟩⟩
theorem SlV.nil (w : World) (size : Nat) : SlV w none 0 size [] := ⟨by simp, by decide, fun h => absurd h (by omega)⟩
theorem SlV.one {ad : Addr} (hc : ∀ (j : Nat) (u : Value), us[j]? = some u → w.cell? (ad.add j) = some u) (hl : us.length = size) : SlV w (some ad) 1 size us := ⟨by omega, by decide, fun _ => ⟨ad, rfl, hc⟩⟩
end

def OwnV (w : World) (base : Nat) (e : TypeId) (size : Nat) (v : Value) (n : Nat) (us : List Value) : Prop := w.ownsRow base e size v n us
section
variable {w w' : World} {base size n : Nat} {e : TypeId} {v : Value} {us : List Value} {F : Nat → Prop}
theorem OwnV.nil (w : World) (base : Nat) (e : TypeId) (size : Nat) : OwnV w base e size (.slice none 0 0) 0 [] := World.ownsRow_nil _ _ _ _
theorem OwnV.alloc (h : OwnV w base e size v n us) (o : Obj) : OwnV (w.alloc o) base e size v n us := World.ownsRow.alloc h o
theorem OwnV.drewN (h : OwnV w base e size v n us) (k : Nat) : OwnV (w.drewN k) base e size v n us := h
theorem OwnV.kept {row : Option Nat} (h : OwnV w base e size v n us) (hg : w.grownBy w' row) (hne : v.ownBlock = none ∨ v.ownBlock ≠ row) : OwnV w' base e size v n us := World.ownsRow.kept h hg hne
theorem OwnV.stay (h : OwnV w base e size v n us) (hs : Stay F w w') (ho : ∀ k, v.ownBlock = some k → ¬ F k) : OwnV w' base e size v n us := by
  refine ⟨h.1, ?_⟩
  rcases h.2 with hn | ⟨g, cap, cur, rfl, hb, hgg, rest⟩
  · exact .inl hn
  · exact .inr ⟨g, cap, cur, rfl, hb, (hs.block g (Array.getElem?_eq_some_iff.1 hgg).1 (ho g rfl)).trans hgg, rest⟩
theorem OwnV.ext (h : OwnV w base e size v n us) (hx : Ext w w') : OwnV w' base e size v n us := h.stay (F := fun _ => False) hx.stay (fun _ _ hf => hf)
theorem OwnV.blk (h : OwnV w base e size v n us) : ∀ k, v.ownBlock = some k → base ≤ k ∧ k < w.heap.size := World.ownsRow.lt h
theorem OwnV.less {b : Nat} (h : OwnV w base e size v n us) (hb : b ≤ base) : OwnV w b e size v n us := by
  refine ⟨h.1, ?_⟩
  rcases h.2 with hn | ⟨g, cap, cur, rfl, hbb, rest⟩
  · exact .inl hn
  · exact .inr ⟨g, cap, cur, rfl, by omega, rest⟩
theorem OwnV.sl (h : OwnV w base e size v n us) (hn : n ≤ 9223372036854775807) : ∃ A c, v = .slice A n c ∧ SlV w A n size us ∧ n ≤ c := by
  have h0 : w.ownsRow base e size v n us := h
  rcases h.2 with ⟨rfl, rfl⟩ | ⟨g, cap, cur, rfl, hb, hgg, hc, _⟩
  · have : us = [] := List.eq_nil_of_length_eq_zero (by have := h.1; omega)
    subst this
    exact ⟨none, 0, rfl, SlV.nil w size, Nat.le_refl _⟩
  · exact ⟨_, _, rfl, ⟨h.1, hn, fun _ => ⟨_, rfl, fun j u hj => h0.cells (g := g) rfl j _ hj⟩⟩, hc⟩
end

/-- The flat list of cells of a list of elements. -/
theorem flat_get {α : Type} {enc : α → List Value} {s : Nat} (hs : ∀ r, (enc r).length = s) : ∀ {rows : List α} {i : Nat} {r : α} {k : Nat}, rows[i]? = some r → k < s → (rows.flatMap enc)[i * s + k]? = (enc r)[k]?
  | [], i, r, k, h, _ => by simp at h
  | x :: rows, 0, r, k, h, hk => by
    simp at h
    subst h
    rw [List.flatMap_cons, Nat.zero_mul, Nat.zero_add, List.getElem?_append_left (by rw [hs]; exact hk)]
  | x :: rows, i + 1, r, k, h, hk => by
    have h' : rows[i]? = some r := by simpa using h
    rw [List.flatMap_cons, List.getElem?_append_right (by rw [hs, Nat.succ_mul]; omega), hs]
    have e : (i + 1) * s + k - s = i * s + k := by rw [Nat.succ_mul]; omega
    rw [e]
    exact flat_get hs h' hk
theorem flat_len {α : Type} {enc : α → List Value} {s : Nat} (hs : ∀ r, (enc r).length = s) (rows : List α) : (rows.flatMap enc).length = rows.length * s := by
  induction rows with
  | nil => simp
  | cons x rows ih => rw [List.flatMap_cons, List.length_append, hs, ih, List.length_cons, Nat.succ_mul, Nat.add_comm]

theorem run_appendV {t e : TypeId} {z : Value} {size bytes : Nat} (E : Elt t e z size bytes) (w : World) (ty : TypeId) (base : Nat) (v : Value) (n : Nat) (us : List Value) (hown : OwnV w base e size v n us) (A : Option Addr) (m c : Nat) (ys : List Value) (hy : SlV w A m size ys)
    (h1 : ∀ u ∈ ys, u.oneCell' = true) (hb : n + m ≤ 1000000000000) (hbase : base ≤ w.heap.size) :
    ∃ v' w', (Builtin.append_ #[t, t] ty #[v, .slice A m c]).run Tryz.prog w = .ok v' w' ∧ OwnV w' base e size v' (n + m) (us ++ ys) ∧ w.grownBy w' v.ownBlock ∧ (v'.ownBlock = v.ownBlock ∨ v'.ownBlock = some w.heap.size) := by
  obtain ⟨i, hi, hz, i1, i2⟩ := info_parts E.inf
  have key : ∀ ad, (∀ (j : Nat) (u : Value), ys[j]? = some u → w.cell? (ad.add j) = some u) → ∃ v' w', (Builtin.append_ #[t, t] ty #[v, .slice (some ad) m c]).run Tryz.prog w = .ok v' w' ∧ OwnV w' base e size v' (n + m) (us ++ ys) ∧ w.grownBy w' v.ownBlock ∧ (v'.ownBlock = v.ownBlock ∨ v'.ownBlock = some w.heap.size) := fun ad hcells => by
    obtain ⟨v', w', hrun, g1, g2, _, g3⟩ := run_append_own_at (P := Tryz.prog) w base t ty e i z size bytes E.und hi hz i1 i2 E.zs E.pos v n us hown ad m c ys hy.1 hcells h1 (by unfold maxLen; omega) (by have := Nat.mul_le_mul hb E.le; omega) hbase
    exact ⟨v', w', hrun, g1, g2, g3⟩
  rcases Nat.eq_zero_or_pos m with h0 | h0
  · subst h0
    have hys : ys = [] := List.eq_nil_of_length_eq_zero (by have := hy.1; omega)
    subst hys
    cases A with
    | none => exact ⟨v, w, run_append_nil_src w base t ty e i size E.und hi v n us hown c, by simpa using hown, World.grownBy.refl w _, .inl rfl⟩
    | some ad => exact key ad (by simp)
  · obtain ⟨ad, rfl, hc⟩ := hy.2.2 h0
    exact key ad hc

/-- 'append(v, ys...)'. -/
theorem appendV {t e : TypeId} {z : Value} {size bytes : Nat} (E : Elt t e z size bytes) (w : World) {ops : Array Oper} {rest : List Oper} {o : Oper} {a : Act} {Q : Exit → Act → World → Prop} (hgd : o.guard = none) (s x : Operand)
    (ho : o.op = .call { callee := .builtin .append, args := #[s, x], argTypes := #[t, t] })
    (base : Nat) (v : Value) (n : Nat) (us : List Value) (hs : a.eval s = v) (hown : OwnV w base e size v n us) (A : Option Addr) (m c : Nat) (ys : List Value) (hx : a.eval x = .slice A m c) (hy : SlV w A m size ys)
    (h1 : ∀ u ∈ ys, u.oneCell' = true) (hb : n + m ≤ 1000000000000) (hbase : base ≤ w.heap.size)
    (h : ∀ v' w', OwnV w' base e size v' (n + m) (us ++ ys) → w.grownBy w' v.ownBlock → (v'.ownBlock = v.ownBlock ∨ v'.ownBlock = some w.heap.size) → wpList Tryz.prog ops Q rest (a.put o.dst v') w') : wpList Tryz.prog ops Q (o :: rest) a w := by
  refine wpList_plain hgd fun K hK => ?_
  obtain ⟨v', w', hrun, h2, h3, h4⟩ := run_appendV E w o.type base v n us hown A m c ys hy h1 hb hbase
  unfold Oper.wp execOp
  simp only [ho, resolve, invoke, builtin, Sem.run_bind, Sem.run_pure, Result.andThen_ok, List.map_toArray, List.map_cons, List.map_nil, hs, hx, hrun]
  exact hK _ _ (h v' w' h2 h3 h4)

/-! ### an element, whole -/
def aggT (d : TypeDesc) : Bool := match d with | .struct _ | .array _ _ => true | _ => false
theorem run_loadVar_at {P : Program} (w : World) (ad : Addr) (ty : TypeId) (cs : List Value) (d : TypeDesc) (hc : ∀ (j : Nat) (u : Value), cs[j]? = some u → w.cell? (ad.add j) = some u)
    (hu : P.underlying ty = some d) (hd : aggT d = true) (hi : (P.info? ty).map (·.size) = some cs.length) :
    (loadVar ty ad).run P w = .ok (.agg cs.toArray) w := by
  have hl : (loadCells ad cs.length).run P w = .ok cs.toArray w := run_loadCells_list (P := P) w ad cs hc
  cases hq : P.info? ty with
  | none => simp [hq] at hi
  | some i =>
    have hs : i.size = cs.length := by simpa [hq] using hi
    have hagg : (isAgg ty).run P w = .ok true w := by
      unfold isAgg
      rw [Sem.run_bind, run_underlying hu w]
      cases d <;> simp_all [aggT]
    simp [loadVar, Sem.run_bind, hagg, sizeOf, typeInfo, hq, hs, hl]

/-- 'x := a[i]' of a struct: its cells are known. -/
theorem load_at {ops : Array Oper} {rest : List Oper} {o : Oper} {a : Act} {w : World} {Q : Exit → Act → World → Prop} (hgd : o.guard = none) (ty : TypeId) (x : Operand) (ho : o.op = .load ty x)
    (ad : Addr) (hx : a.eval x = .pointer (some ad)) (cs : List Value) (d : TypeDesc) (hc : ∀ (j : Nat) (u : Value), cs[j]? = some u → w.cell? (ad.add j) = some u)
    (hu : Tryz.prog.underlying ty = some d) (hd : aggT d = true) (hi : (Tryz.prog.info? ty).map (·.size) = some cs.length)
    (h : wpList Tryz.prog ops Q rest (a.put o.dst (.agg cs.toArray)) w) : wpList Tryz.prog ops Q (o :: rest) a w :=
  wpList_plain hgd fun _ hK => by
    unfold Oper.wp execOp
    simp only [ho, hx, Instr.loadAt, Instr.sureAddr, Sem.run_bind, Sem.run_pure, Result.andThen_ok, run_loadVar_at w ad ty cs d hc hu hd hi]
    exact hK _ _ h

theorem run_storeAt {P : Program} (g off : Nat) (t : TypeId) : ∀ (vs : List Value) (i : Nat) (cur : Array Value) (w : World), Blk w g t cur → off + i + vs.length ≤ cur.size → (∀ v ∈ vs, v.oneCell' = true) →
    ∃ w' cur', (storeCells ⟨g, off, none⟩ vs i).run P w = .ok () w' ∧ Blk w' g t cur' ∧ w.grownBy w' (some g) ∧ cur'.size = cur.size ∧ ∀ j : Nat, cur'[j]? = if off + i ≤ j ∧ j < off + i + vs.length then vs[j - (off + i)]? else cur[j]?
  | [], i, cur, w, hg, _, _ => ⟨w, cur, rfl, hg, World.grownBy.refl w _, rfl, fun j => by rw [if_neg (by rw [List.length_nil]; omega)]⟩
  | v :: rest, i, cur, w, hg, hl, h1 => by
    have hi : off + i < cur.size := by simp at hl; omega
    have hadd : (⟨g, off, none⟩ : Addr).add i = ⟨g, off + i, none⟩ := by unfold Addr.add; split <;> simp_all
    have hcell : w.cell? ⟨g, off + i, none⟩ = some cur[off + i] := by rw [hg.cell]; exact Array.getElem?_eq_getElem hi
    have hst : (store ((⟨g, off, none⟩ : Addr).add i) v).run P w = .ok () (w.setCell ⟨g, off + i, none⟩ v) := by
      rw [hadd, run_store P w _ v _ (h1 v (by simp)), hcell]
      simp [hg.frozen]
    obtain ⟨w', cur', hrun, hb, hgr, hsz, hget⟩ := run_storeAt (P := P) g off t rest (i + 1) _ _ (hg.set_ (off + i) v) (by simp at hl ⊢; omega) (fun x hx => h1 x (by simp [hx]))
    refine ⟨w', cur', ?_, hb, ?_, by simpa using hsz, fun j => ?_⟩
    · simp only [storeCells, Sem.run_bind, hst, Result.andThen_ok, hrun]
    · have g1 : w.grownBy (w.setCell ⟨g, off + i, none⟩ v) (some g) := ⟨rfl, rfl, rfl, by rw [World.size_setCell]; exact Nat.le_refl _, fun k _ hk => Below.heap_setCell w _ v k (fun e => hk (by rw [e]))⟩
      exact ⟨hgr.os.trans g1.os, hgr.tape.trans g1.tape, hgr.output.trans g1.output, Nat.le_trans g1.size hgr.size, fun k hk hne => (hgr.block k (Nat.lt_of_lt_of_le hk g1.size) hne).trans (g1.block k hk hne)⟩
    · rw [hget j]
      by_cases h2 : off + (i + 1) ≤ j ∧ j < off + (i + 1) + rest.length
      · rw [if_pos h2, if_pos (by simp; omega)]
        have e : j - (off + i) = (j - (off + (i + 1))) + 1 := by omega
        rw [e, List.getElem?_cons_succ]
      · rw [if_neg h2]
        by_cases h3 : j = off + i
        · subst h3
          rw [if_pos (by simp), Array.getElem?_setIfInBounds_self, if_pos hi]
          simp
        · rw [if_neg (by simp; omega), Array.getElem?_setIfInBounds_ne (by omega)]

/-- 'a[i] = x' of a struct, in a block of the call's own. -/
theorem store_at {ops : Array Oper} {rest : List Oper} {o : Oper} {a : Act} {w : World} {Q : Exit → Act → World → Prop} (hgd : o.guard = none) (ty : TypeId) (x y : Operand) (ho : o.op = .store ty x y)
    (g off : Nat) (hx : a.eval x = .pointer (some ⟨g, off, none⟩)) (cells : Array Value) (hy : a.eval y = .agg cells) (t : TypeId) (cur : Array Value) (hg : Blk w g t cur) (hl : off + cells.size ≤ cur.size)
    (hi : (Tryz.prog.info? ty).map (·.size) = some cells.size) (h1 : cells.all (·.oneCell') = true)
    (h : ∀ w' cur', Blk w' g t cur' → w.grownBy w' (some g) → cur'.size = cur.size → (∀ j : Nat, cur'[j]? = if off ≤ j ∧ j < off + cells.size then cells[j - off]? else cur[j]?) → wpList Tryz.prog ops Q rest (a.put o.dst undef) w') :
    wpList Tryz.prog ops Q (o :: rest) a w :=
  wpList_plain hgd fun _ hK => by
    obtain ⟨w', cur', hrun, hb, hgr, hsz, hget⟩ := run_storeAt (P := Tryz.prog) g off t cells.toList 0 cur w hg (by simpa using hl) (fun v hv => (Array.all_eq_true_iff_forall_mem.1 h1) v (by simpa using hv))
    have hr : (storeVar ty ⟨g, off, none⟩ (.agg cells)).run Tryz.prog w = .ok () w' := by
      cases hq : Tryz.prog.info? ty with
      | none => simp [hq] at hi
      | some i =>
        have hs : cells.size = i.size := by simp [hq] at hi; omega
        simp [storeVar, sizeOf, typeInfo, hq, Value.cells, hs, hrun]
    unfold Oper.wp execOp
    simp only [ho, hx, hy, Instr.storeAt, Instr.sureAddr, Sem.run_bind, Sem.run_pure, Result.andThen_ok, hr]
    exact hK _ _ (h w' cur' hb hgr hsz (fun j => by have := hget j; simpa using this))
end Go.Proofs.YtdgflniahoidmaaGreat
