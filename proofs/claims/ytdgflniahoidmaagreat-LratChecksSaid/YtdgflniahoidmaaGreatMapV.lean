/- A map from numbers to slices of slices, as a plain function: its entries are held as values. -/
import Derived.Test.YtdgflniahoidmaaGreatSl
import Derived.Test.YtdgflniahoidmaaGreatMap
import Derived.Maps.OwnSet
set_option maxRecDepth 100000
namespace Go.Proofs.YtdgflniahoidmaaGreat
open Go.RowKit Go.Maps

/-- An element reads as itself. -/
def asIs (v : Value) : Option (DataW Value × List MemPlace) := some (.held v, [])
def nilV : Value := .slice none 0 0
/-- Block b of w is a map of at most k entries: f x tells the entry of x, or that there is none. -/
def MapV (w : World) (b k : Nat) (f : Int → Option Value) : Prop :=
  ∃ D : DataW Value, w.ownsMap Tryz.prog 3 asIs b k D ∧ IsMap D ∧
    ∀ x : Int, -9223372036854775808 ≤ x → x ≤ 9223372036854775807 → Maps.has D (.int .i64 x) = (f x).isSome ∧ D.atKey (.int .i64 x) (.held nilV) = .held ((f x).getD nilV)

section
variable {w w' : World} {b k : Nat} {f : Int → Option Value}
theorem MapV.made (w : World) : MapV (w.alloc (.map #[] 0)) w.heap.size 0 fun _ => none :=
  ⟨.map [], World.ownsMap_made _ _ _ _, ⟨[], rfl⟩, fun _ _ _ => ⟨rfl, rfl⟩⟩
theorem MapV.lt (h : MapV w b k f) : b < w.heap.size := let ⟨_, h1, _⟩ := h; h1.lt
theorem MapV.keep (h : MapV w b k f) (e : w'.heap[b]? = w.heap[b]?) : MapV w' b k f := by
  obtain ⟨D, ⟨es, cl, hb, r⟩, h2⟩ := h
  exact ⟨D, ⟨es, cl, e.trans hb, r⟩, h2⟩
theorem MapV.ext (h : MapV w b k f) (hx : Ext w w') : MapV w' b k f := h.keep (hx.block b h.lt)
theorem MapV.grown {row : Option Nat} (h : MapV w b k f) (hg : w.grownBy w' row) (hne : some b ≠ row) : MapV w' b k f := h.keep (hg.block b h.lt hne)
theorem MapV.mono {k' : Nat} (h : MapV w b k f) (hk : k ≤ k') : MapV w b k' f := let ⟨D, h1, h2⟩ := h; ⟨D, h1.mono hk, h2⟩
theorem MapV.ne_own {base : Nat} {t : TypeId} {i n : Nat} {v : Value} {us : List Value} (h : MapV w b k f) (ho : w.ownsRow base t i v n us) : some b ≠ v.ownBlock := by
  obtain ⟨D, ⟨es, cl, hb, _⟩, _⟩ := h
  rcases ho.2 with ⟨rfl, _⟩ | ⟨g, cap, cur, rfl, _, hg, _⟩
  · simp [Value.ownBlock]
  · intro e
    have e' : b = g := by simpa [Value.ownBlock] using e
    subst e'
    rw [hg] at hb
    cases hb
theorem MapV.ne_blk {g : Nat} {t : TypeId} {cs : Array Value} (h : MapV w b k f) (hg : Blk w g t cs) : b ≠ g := by
  obtain ⟨D, ⟨es, cl, hb, _⟩, _⟩ := h
  rintro rfl
  unfold Blk at hg
  rw [hg] at hb
  cases hb

set_option maxRecDepth 100000 in
theorem MapV.set (h : MapV w b k f) (hk : k ≤ 1000000000000000000) (x : Int) (y : Value) (hx : -9223372036854775808 ≤ x ∧ x ≤ 9223372036854775807) :
    ∃ w', (Instr.mapUpdate 101 (.map (some b)) (.int .i64 x) y).run Tryz.prog w = .ok () w' ∧ MapV w' b (k + 1) (fun z => if z = x then some y else f z) ∧ w.grownBy w' (some b) := by
  obtain ⟨D, h1, h2, h3⟩ := h
  obtain ⟨w', hrun, g1, g2⟩ := h1.update keyInt Tryz.underlying101 (by unfold maxLen; omega) (keyOf_int_mk Tryz.underlying3 (wf_i64_mk hx)) (d := .held y) (ps := []) rfl
  refine ⟨w', hrun, ⟨_, g1, ?_, fun z hz1 hz2 => ?_⟩, g2⟩
  · obtain ⟨es, rfl⟩ := h2; exact ⟨_, rfl⟩
  · dsimp only
    by_cases e : z = x
    · subst e
      rw [if_pos rfl, atKey_put_same h2 (by trivial), has_put_same h2 (by trivial)]
      exact ⟨rfl, rfl⟩
    · rw [if_neg e, atKey_put_other (fun h => e (by injection h)), has_put_other (fun h => e (by injection h))]
      exact h3 z hz1 hz2

set_option maxRecDepth 100000 in
theorem MapV.look (h : MapV w b k f) (x : Int) (hx : -9223372036854775808 ≤ x ∧ x ≤ 9223372036854775807) :
    (Instr.lookup 101 (.map (some b)) (.int .i64 x) true).run Tryz.prog w = .ok (.tuple #[(f x).getD nilV, .bool (f x).isSome]) w := by
  obtain ⟨D, h1, _, h3⟩ := h
  obtain ⟨e1, e2⟩ := h3 x hx.1 hx.2
  obtain ⟨v, ps, hrun, hv⟩ := h1.look_ok keyInt Tryz.underlying101 (z := nilV) (by kernel_rfl) (zd := .held nilV) (zp := []) rfl (keyOf_int_mk Tryz.underlying3 (wf_i64_mk hx))
  rw [e2] at hv
  rw [hrun, e1]
  have : v = (f x).getD nilV := by
    unfold asIs at hv
    injection hv with hv
    injection hv with hv _
    injection hv
  rw [this]
theorem look_nilV (w : World) (x : Int) (hx : -9223372036854775808 ≤ x ∧ x ≤ 9223372036854775807) :
    (Instr.lookup 101 (.map none) (.int .i64 x) true).run Tryz.prog w = .ok (.tuple #[nilV, .bool false]) w := by
  simpa using Maps.look_nil (w := w) true keyInt Tryz.underlying101 (z := nilV) (by kernel_rfl) (keyOf_int_mk Tryz.underlying3 (wf_i64_mk hx))
end

/-- 'm[k] = v'. -/
theorem wpList_setV (w : World) {ops : Array Oper} {rest : List Oper} {o : Oper} {a : Act} {Q : Exit → Act → World → Prop} (hg : o.guard = none) (m x v : Operand) (hop : o.op = Op.mapUpdate 101 m x v)
    (b k : Nat) (f : Int → Option Value) (hm : a.eval m = .map (some b)) (hc : MapV w b k f) (hk : k ≤ 1000000000000000000) (y : Int) (z : Value) (hx : a.eval x = .int .i64 y) (hv : a.eval v = z)
    (hy : -9223372036854775808 ≤ y ∧ y ≤ 9223372036854775807)
    (hK : ∀ w', MapV w' b (k + 1) (fun u => if u = y then some z else f u) → w.grownBy w' (some b) → wpList Tryz.prog ops Q rest (a.put o.dst undef) w') : wpList Tryz.prog ops Q (o :: rest) a w := by
  refine wpList_plain hg fun K' hK' => ?_
  obtain ⟨w', hrun, r1, r2⟩ := hc.set hk y z hy
  unfold Oper.wp
  simp [execOp, hop, hm, hx, hv, hrun, Result.andThen]
  exact hK' _ _ (hK w' r1 r2)
/-- .. an entry of a literal. -/
theorem wpList_insV (w : World) {ops : Array Oper} {rest : List Oper} {o : Oper} {a : Act} {Q : Exit → Act → World → Prop} (hg : o.guard = none) (m x v : Operand) (hop : o.op = Op.insert 101 m x v)
    (b k : Nat) (f : Int → Option Value) (hm : a.eval m = .map (some b)) (hc : MapV w b k f) (hk : k ≤ 1000000000000000000) (y : Int) (z : Value) (hx : a.eval x = .int .i64 y) (hv : a.eval v = z)
    (hy : -9223372036854775808 ≤ y ∧ y ≤ 9223372036854775807)
    (hK : ∀ w', MapV w' b (k + 1) (fun u => if u = y then some z else f u) → w.grownBy w' (some b) → wpList Tryz.prog ops Q rest (a.put o.dst undef) w') : wpList Tryz.prog ops Q (o :: rest) a w := by
  refine wpList_plain hg fun K' hK' => ?_
  obtain ⟨w', hrun, r1, r2⟩ := hc.set hk y z hy
  unfold Oper.wp
  simp [execOp, hop, hm, hx, hv, hrun, Result.andThen]
  exact hK' _ _ (hK w' r1 r2)

/-- A map's value that reads as a function to rows. -/
def MapR (w : World) (v : Value) (F : Int → Option (List (List Int))) : Prop :=
  ∃ f : Int → Option Value,
    (∀ W, Ext w W → ∀ x, -9223372036854775808 ≤ x ∧ x ≤ 9223372036854775807 → (Instr.lookup 101 v (.int .i64 x) true).run Tryz.prog W = .ok (.tuple #[(f x).getD nilV, .bool (f x).isSome]) W) ∧
    ∀ x, match f x, F x with | none, none => True | some u, some L => ∃ A n c, u = .slice A n c ∧ n ≤ 10000000 ∧ RowsSl w A n L | _, _ => False
theorem MapR.nil (w : World) : MapR w (.map none) fun _ => none := ⟨fun _ => none, fun W _ x hx => look_nilV W x hx, fun _ => trivial⟩
theorem MapR.ext {w w' : World} {v : Value} {F : Int → Option (List (List Int))} (h : MapR w v F) (hx : Ext w w') : MapR w' v F := by
  obtain ⟨f, h1, h2⟩ := h
  refine ⟨f, fun W hW => h1 W (hx.trans hW), fun x => ?_⟩
  have := h2 x
  revert this
  split
  · exact fun a => a
  · rintro ⟨A, n, c, e, hn, hr⟩; exact ⟨A, n, c, e, hn, hr.ext hx⟩
  · exact fun a => a
/-- What a look-up brings. -/
theorem MapR.at {w : World} {v : Value} {F : Int → Option (List (List Int))} (h : MapR w v F) (x : Int) (hx : -9223372036854775808 ≤ x ∧ x ≤ 9223372036854775807) :
    ∃ A n c, (∀ W, Ext w W → (Instr.lookup 101 v (.int .i64 x) true).run Tryz.prog W = .ok (.tuple #[.slice A n c, .bool (F x).isSome]) W) ∧ n ≤ 10000000 ∧ RowsSl w A n ((F x).getD []) := by
  obtain ⟨f, h1, h2⟩ := h
  have e := h2 x
  cases hf : f x <;> cases hF : F x <;> rw [hf, hF] at e
  · refine ⟨none, 0, 0, fun W hW => ?_, by omega, RowsSl.nil _⟩
    have := h1 W hW x hx
    rw [hf] at this
    exact this
  · exact e.elim
  · exact e.elim
  · obtain ⟨A, n, c, rfl, hn, hr⟩ := e
    refine ⟨A, n, c, fun W hW => ?_, hn, hr⟩
    have := h1 W hW x hx
    rw [hf] at this
    exact this
end Go.Proofs.YtdgflniahoidmaaGreat
