/- Layer 4 (cnf): more clauses. -/
import Derived.Test.YtdgflniahoidmaaGreatCnf3
import Derived.Test.YtdgflniahoidmaaGreatStill
import Derived.Deep.RegionLaw
set_option maxRecDepth 100000
namespace Go.Proofs.YtdgflniahoidmaaGreat
open Go.RowKit

/-- A slice of slices that the call built: it owns it, and its rows. -/
def WRows (w : World) (base : Nat) (v : Value) (L : List (List Int)) : Prop :=
  ∃ vs : List Value, w.ownsRow base 42 1 v vs.length vs ∧ vs.length = L.length ∧ ∀ (j : Nat) (xs : List Int), L[j]? = some xs → ∃ u, vs[j]? = some u ∧ OwnI w base u xs
section
variable {w w' : World} {base : Nat} {v : Value} {L : List (List Int)}
theorem WRows.nil (w : World) (base : Nat) : WRows w base (.slice none 0 0) [] := ⟨[], World.ownsRow_nil _ _ _ _, rfl, fun _ _ h => by simp at h⟩
theorem WRows.ext (h : WRows w base v L) (hx : Ext w w') : WRows w' base v L := by
  obtain ⟨vs, a, b, c⟩ := h
  refine ⟨vs, (show OwnV w base 42 1 v vs.length vs from a).ext hx, b, fun j xs hj => ?_⟩
  obtain ⟨u, h1, h2⟩ := c j xs hj
  exact ⟨u, h1, h2.ext hx⟩
theorem WRows.form (h : WRows w base v L) : ∃ A n c, v = .slice A n c ∧ n = L.length ∧ n ≤ c := by
  obtain ⟨vs, a, b, _⟩ := h
  obtain ⟨A, c, e, hc⟩ := OwnV.len (show OwnV w base 42 1 v vs.length vs from a)
  exact ⟨A, _, c, e, b, hc⟩
theorem ownsRow_ne_blk {base g size n : Nat} {e t : TypeId} {us : List Value} {cs : Array Value} (h : w.ownsRow base e size v n us) (hg : Blk w g t cs) (hne : e ≠ t) : v.ownBlock ≠ some g := by
  rcases h.2 with ⟨rfl, _⟩ | ⟨g', cap, cur, rfl, _, hh, _⟩
  · simp [Value.ownBlock]
  · intro he
    have : g' = g := by simpa [Value.ownBlock] using he
    subst this
    exact Blk.ne_ (t := e) hh hg hne rfl
theorem OwnI.ne_row {base base2 size n : Nat} {u : Value} {xs : List Int} {us : List Value} (h : OwnI w base u xs) (h2 : w.ownsRow base2 42 size v n us) : u.ownBlock = none ∨ u.ownBlock ≠ v.ownBlock := by
  rcases h2.2 with ⟨rfl, _⟩ | ⟨g', cap, cur, rfl, _, hh, _⟩
  · cases e : u.ownBlock with
    | none => exact Or.inl rfl
    | some k => exact Or.inr (by simp [Value.ownBlock])
  · exact Or.inr (h.ne_blk (g := g') (t := 42) hh (by decide))
theorem WRows.blk_set {g : Nat} {t : TypeId} {cs : Array Value} (h : WRows w base v L) (hg : Blk w g t cs) (h1 : 3 ≠ t) (h2 : 42 ≠ t) (hgr : w.grownBy w' (some g)) : WRows w' base v L := by
  obtain ⟨vs, a, b, c⟩ := h
  refine ⟨vs, World.ownsRow.kept a hgr (Or.inr (ownsRow_ne_blk a hg h2)), b, fun j xs hj => ?_⟩
  obtain ⟨u, e1, e2⟩ := c j xs hj
  exact ⟨u, e1, e2.kept hgr (Or.inr (e2.ne_blk hg h1))⟩
theorem WRows.blk (h : WRows w base v L) : ∀ k, v.ownBlock = some k → base ≤ k ∧ k < w.heap.size := let ⟨_, a, _, _⟩ := h; World.ownsRow.lt a
theorem WRows.ne_blk {g : Nat} {t : TypeId} {cs : Array Value} (h : WRows w base v L) (hg : Blk w g t cs) (h2 : 42 ≠ t) : v.ownBlock ≠ some g := let ⟨_, a, _, _⟩ := h; ownsRow_ne_blk a hg h2
theorem WRows.sl (h : WRows w base v L) (hb : ∀ xs ∈ L, xs.length ≤ 9223372036854775807 ∧ ∀ x ∈ xs, -9223372036854775808 ≤ x ∧ x ≤ 9223372036854775807) (hn : L.length ≤ 9223372036854775807) : ∃ A n c, v = .slice A n c ∧ RowsSl w A n L ∧ n ≤ c := by
  obtain ⟨vs, h0, hl, hr⟩ := h
  rcases h0.2 with ⟨rfl, h1⟩ | ⟨g, cap, cur, rfl, hbb, hgg, hc, _⟩
  · have : L = [] := List.eq_nil_of_length_eq_zero (by omega)
    subst this
    exact ⟨none, 0, 0, rfl, RowsSl.nil w, Nat.le_refl _⟩
  · refine ⟨_, _, _, rfl, ⟨hl.symm, by omega, fun _ => ⟨_, rfl, fun j xs hj => ?_⟩⟩, hc⟩
    obtain ⟨u, h1, h2⟩ := hr j xs hj
    obtain ⟨q1, q2⟩ := hb xs (List.mem_of_getElem? hj)
    obtain ⟨A, n, c, rfl, hs⟩ := h2.sl q1 q2
    exact ⟨A, n, c, h0.cells (g := g) rfl j _ h1, hs⟩
end

/-- 'append(v, y)' at a step of a region that draws its order: the row y was laid in a block of its own. -/
theorem step_appendW (w : World) {ops : Array Oper} {o : Oper} {a : Act} {K : Act → World → Prop} {Q : Exit → Act → World → Prop} {E : Prop} (hgd : o.guard = none) (s x : Operand)
    (ho : o.op = .call { callee := .builtin .append, args := #[s, x], argTypes := #[22, 22] })
    (base : Nat) (v : Value) (L : List (List Int)) (hs : a.eval s = v) (hown : WRows w base v L) (ad : Addr) (c : Nat) (A : Option Addr) (n c' : Nat) (y : List Int) (hx : a.eval x = .slice (some ad) 1 c) (hc : w.cell? ad = some (.slice A n c'))
    (hy : OwnI w base (.slice A n c') y) (hb : L.length + 1 ≤ 1000000000000) (hbase : base ≤ w.heap.size)
    (h : ∀ A1 n1 c1 w', WRows w' base (.slice A1 n1 c1) (L ++ [y]) → w.grownBy w' v.ownBlock → K (a.put o.dst (.slice A1 n1 c1)) w') :
    if Region.wanted o (yielded ops a.tmps) = true then Oper.wp Tryz.prog o a w K Q else E := by
  have hw : Region.wanted o (yielded ops a.tmps) = true := by simp [Region.wanted, hgd]
  rw [if_pos hw]
  obtain ⟨i, hi, hz, h1, h2⟩ := info_parts infoR
  obtain ⟨vs, hv, hl, hr⟩ := hown
  obtain ⟨v', w', hrun, g1, g2, _, g3⟩ := run_append_own_at (P := Tryz.prog) w base 22 o.type 42 i (.slice none 0 0) 1 24 Tryz.underlying22 hi hz h1 h2 rfl (by decide) v vs.length _ hv ad 1 c [.slice A n c'] (by simp) (fun j u hj => by
    cases j with
    | zero => simp at hj; subst hj; simpa [Addr.add] using hc
    | succ j => simp at hj) (by intro u hu; rw [List.mem_singleton.1 hu]; rfl) (by unfold maxLen; omega) (by omega) hbase
  obtain ⟨A1, n1, c1, rfl⟩ := OwnV.form (show OwnV w' base 42 1 v' _ _ from g1)
  unfold Oper.wp execOp
  simp only [ho, resolve, invoke, builtin, Sem.run_bind, Sem.run_pure, Result.andThen_ok, List.map_toArray, List.map_cons, List.map_nil, hs, hx, hrun]
  refine h A1 n1 c1 w' ⟨vs ++ [.slice A n c'], ?_, by simp [hl], ?_⟩ g2
  · rw [List.length_append]; exact g1
  · intro j xs hj
    by_cases hjl : j < L.length
    · rw [List.getElem?_append_left hjl] at hj
      obtain ⟨u, e1, e2⟩ := hr j xs hj
      exact ⟨u, by rw [List.getElem?_append_left (by omega)]; exact e1, e2.kept g2 (e2.ne_row hv)⟩
    · rw [List.getElem?_append_right (by omega)] at hj
      have : j - L.length = 0 := by have := (List.getElem?_eq_some_iff.1 hj).1; simp at this; omega
      rw [this] at hj
      simp at hj
      subst hj
      exact ⟨_, by rw [List.getElem?_append_right (by omega), hl, this]; rfl, hy.kept g2 (hy.ne_row hv)⟩

theorem Blk.newg2 {w : World} {g : Nat} (t : TypeId) (cs : Array Value) (hg : w.heap.size = g) : Blk (w.alloc (.cells cs t)) g t cs := by subst hg; exact Blk.new w t cs

theorem with_end {w w4 w6 : World} {g g4 base : Nat} {y : Int} {vold vnew : Value} {L L' : List (List Int)} {o : Obj} {cs4 : Array Value} (hb4 : Blk w4 g 24 #[.int .i64 y, vold]) (hr4 : Blk w4 g4 24 cs4) (hgg : g4 ≠ g) (hw4 : WRows w4 base vold L)
    (hg : (w4.alloc o).grownBy w6 vold.ownBlock) (hw6 : WRows w6 base vnew L') (hx : Ext w w4) (hbase : w.heap.size ≤ base) (hgw : w.heap.size ≤ g) :
    WRows (w6.setCell ⟨g, 1, none⟩ vnew) base vnew L' ∧ Blk (w6.setCell ⟨g, 1, none⟩ vnew) g 24 #[.int .i64 y, vnew] ∧ Blk (w6.setCell ⟨g, 1, none⟩ vnew) g4 24 cs4 ∧ Ext w (w6.setCell ⟨g, 1, none⟩ vnew) := by
  have h1 := hw4.ext ((Ext.refl w4).alloc o)
  have hb6 := (hb4.alloc o).grown hg (Ne.symm (h1.ne_blk (hb4.alloc o) (by decide)))
  have hr6 := (hr4.alloc o).grown hg (Ne.symm (h1.ne_blk (hr4.alloc o) (by decide)))
  have gset : w6.grownBy (w6.setCell ⟨g, 1, none⟩ vnew) (some g) := ⟨rfl, rfl, rfl, by rw [World.size_setCell]; exact Nat.le_refl _, fun k _ hk => Below.heap_setCell w6 _ vnew k (fun e => hk (by rw [e]))⟩
  refine ⟨hw6.blk_set hb6 (by decide) (by decide) gset, hb6.set_ 1 vnew, hr6.far (p := ⟨g, 1, none⟩) hgg vnew, ?_⟩
  exact ((hx.alloc o).grown hg (fun k e => by have := (h1.blk k e).1; omega)).grown gset (fun k e => by cases e; exact hgw)
theorem max_end {w w4 : World} {g g4 base : Nat} {y z : Int} {v : Value} {L : List (List Int)} {cs4 : Array Value} (hb4 : Blk w4 g 24 #[.int .i64 y, v]) (hr4 : Blk w4 g4 24 cs4) (hgg : g4 ≠ g) (hw4 : WRows w4 base v L) (hx : Ext w w4) (hgw : w.heap.size ≤ g) :
    WRows (w4.setCell ⟨g, 0, none⟩ (.int .i64 z)) base v L ∧ Blk (w4.setCell ⟨g, 0, none⟩ (.int .i64 z)) g 24 #[.int .i64 z, v] ∧ Blk (w4.setCell ⟨g, 0, none⟩ (.int .i64 z)) g4 24 cs4 ∧ Ext w (w4.setCell ⟨g, 0, none⟩ (.int .i64 z)) := by
  have gset : w4.grownBy (w4.setCell ⟨g, 0, none⟩ (.int .i64 z)) (some g) := ⟨rfl, rfl, rfl, by rw [World.size_setCell]; exact Nat.le_refl _, fun k _ hk => Below.heap_setCell w4 _ _ k (fun e => hk (by rw [e]))⟩
  exact ⟨hw4.blk_set hb4 (by decide) (by decide) gset, hb4.set_ 0 _, hr4.far (p := ⟨g, 0, none⟩) hgg _, hx.grown gset (fun k e => by cases e; exact hgw)⟩

def withV (v : Int) (M : List (List Int)) : Int := M.foldl (fun a c => max a (mostV c)) v
theorem withV_snoc (v : Int) (M : List (List Int)) (c : List Int) : withV v (M ++ [c]) = max (withV v M) (mostV c) := by unfold withV; rw [List.foldl_append]; rfl
theorem withV_le (M : List (List Int)) : ∀ v, v ≤ withV v M ∧ withV v M ≤ max v 100000 := by
  induction M with
  | nil => intro v; exact ⟨Int.le_refl _, by show v ≤ _; omega⟩
  | cons c M ih =>
    intro v
    have := ih (max v (mostV c))
    have h2 := mostV_bd c
    have e : withV v (c :: M) = withV (max v (mostV c)) M := rfl
    rw [e]; omega

/-- What With hands back. -/
def RetWith (v : Int) (L M : List (List Int)) (w : World) (e : Ending) (w' : World) : Prop :=
  ∃ A n c, e = .returned (.agg #[.int .i64 (withV v M), .slice A n c]) ∧ RowsSl w' A n (L ++ M) ∧ n ≤ c ∧ Ext w w'

/-- And it owns what it hands back. -/
def RetWithW (v : Int) (L M : List (List Int)) (w : World) (e : Ending) (w' : World) : Prop :=
  ∃ A n c, e = .returned (.agg #[.int .i64 (withV v M), .slice A n c]) ∧ RowsSl w' A n (L ++ M) ∧ n ≤ c ∧ Ext w w' ∧ WRows w' w.heap.size (.slice A n c) (L ++ M)


end Go.Proofs.YtdgflniahoidmaaGreat
