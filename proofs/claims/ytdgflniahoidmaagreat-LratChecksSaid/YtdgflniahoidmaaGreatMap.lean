/- A map from numbers to numbers that the call itself made, as a plain function; the laws at its operations. -/
import Derived.Test.YtdgflniahoidmaaGreatSl
import Derived.Maps.Own
import Derived.Maps.OwnOps
import Derived.Maps.Views
import Derived.Maps.OwnSet
import Derived.Test.YtdgflniahoidmaaGreatApp
set_option maxRecDepth 100000
namespace Go.Proofs.YtdgflniahoidmaaGreat
open Go.RowKit Go.Maps

theorem keyInt : Keyed Tryz.prog 3 := int_keyed Tryz.underlying3
theorem zeroInt (w : World) : (zeroValue 3).run Tryz.prog w = .ok (.int .i64 0) w := by kernel_rfl
theorem wf_i64_mk {x : Int} (h : -9223372036854775808 ≤ x ∧ x ≤ 9223372036854775807) : (Lit.int .i64 x).wf = true := WalkArith.wf_i64 (by omega)

/-- Block b of w is a map of at most k entries that holds f x at each x (0 where there is none). -/
def Cnt (w : World) (b k : Nat) (f : Int → Int) : Prop :=
  ∃ D : DataW Unit, w.ownsMap Tryz.prog 3 (plainElem Tryz.prog 3) b k D ∧ IsMap D ∧
    ∀ x : Int, -9223372036854775808 ≤ x → x ≤ 9223372036854775807 → D.atKey (.int .i64 x) (.lit (.int .i64 0)) = .lit (.int .i64 (f x))

section
variable {w w' : World} {b k : Nat} {f : Int → Int}
theorem Cnt.made (w : World) : Cnt (w.alloc (.map #[] 0)) w.heap.size 0 fun _ => 0 :=
  ⟨.map [], World.ownsMap_made _ _ _ _, ⟨[], rfl⟩, fun _ _ _ => rfl⟩
theorem Cnt.lt (h : Cnt w b k f) : b < w.heap.size := let ⟨_, h1, _⟩ := h; h1.lt
theorem Cnt.keep (h : Cnt w b k f) (e : w'.heap[b]? = w.heap[b]?) : Cnt w' b k f := by
  obtain ⟨D, ⟨es, cl, hb, r⟩, h2⟩ := h
  exact ⟨D, ⟨es, cl, e.trans hb, r⟩, h2⟩
theorem Cnt.ext (h : Cnt w b k f) (hx : Ext w w') : Cnt w' b k f := h.keep (hx.block b h.lt)
theorem Cnt.grown {row : Option Nat} (h : Cnt w b k f) (hg : w.grownBy w' row) (hne : some b ≠ row) : Cnt w' b k f := h.keep (hg.block b h.lt hne)
theorem Cnt.mono {k' : Nat} (h : Cnt w b k f) (hk : k ≤ k') : Cnt w b k' f := let ⟨D, h1, h2⟩ := h; ⟨D, h1.mono hk, h2⟩
theorem Cnt.congr {g : Int → Int} (h : Cnt w b k f) (e : ∀ x, f x = g x) : Cnt w b k g := by
  obtain ⟨D, h1, h2, h3⟩ := h
  exact ⟨D, h1, h2, fun x a c => by rw [h3 x a c, e]⟩

set_option maxRecDepth 100000 in
theorem Cnt.run (h : Cnt w b k f) (x : Int) (hx : -9223372036854775808 ≤ x ∧ x ≤ 9223372036854775807) :
    (Instr.lookup 94 (.map (some b)) (.int .i64 x) false).run Tryz.prog w = .ok (.int .i64 (f x)) w := by
  obtain ⟨D, h1, _, h3⟩ := h
  obtain ⟨c, hrun, hat, _⟩ := h1.lookup_int keyInt Tryz.underlying94 Tryz.underlying3 (zeroInt w) (keyOf_int_mk Tryz.underlying3 (wf_i64_mk hx))
  rw [h3 x hx.1 hx.2] at hat
  injection hat with hat
  injection hat with _ hat
  rw [hrun, hat]

set_option maxRecDepth 100000 in
theorem Cnt.set (h : Cnt w b k f) (hk : k ≤ 1000000000000000000) (x y : Int) (hx : -9223372036854775808 ≤ x ∧ x ≤ 9223372036854775807) (hy : -9223372036854775808 ≤ y ∧ y ≤ 9223372036854775807) :
    ∃ w', (Instr.mapUpdate 94 (.map (some b)) (.int .i64 x) (.int .i64 y)).run Tryz.prog w = .ok () w' ∧ Cnt w' b (k + 1) (fun z => if z = x then y else f z) ∧ w.grownBy w' (some b) := by
  obtain ⟨D, h1, h2, h3⟩ := h
  obtain ⟨w', hrun, g1, g2⟩ := h1.update keyInt Tryz.underlying94 (by unfold maxLen; omega) (keyOf_int_mk Tryz.underlying3 (wf_i64_mk hx)) (plainElem_int Tryz.underlying3 (wf_i64_mk hy))
  refine ⟨w', hrun, ⟨_, g1, ?_, fun z hz1 hz2 => ?_⟩, g2⟩
  · obtain ⟨es, rfl⟩ := h2; exact ⟨_, rfl⟩
  · show _ = DataW.lit (Lit.int .i64 (if z = x then y else f z))
    by_cases e : z = x
    · subst e
      rw [if_pos rfl, atKey_put_same h2 (by trivial)]
    · rw [if_neg e, atKey_put_other (fun h => e (by injection h)), h3 z hz1 hz2]
end

/-- 'm[k]'. -/
theorem wpList_look (w : World) {ops : Array Oper} {rest : List Oper} {o : Oper} {a : Act} {Q : Exit → Act → World → Prop} (hg : o.guard = none) (m x : Operand) (hop : o.op = Op.lookup 94 m x false)
    (b k : Nat) (f : Int → Int) (hm : a.eval m = .map (some b)) (hc : Cnt w b k f) (y : Int) (hx : a.eval x = .int .i64 y) (hy : -9223372036854775808 ≤ y ∧ y ≤ 9223372036854775807)
    (hK : wpList Tryz.prog ops Q rest (a.put o.dst (.int .i64 (f y))) w) : wpList Tryz.prog ops Q (o :: rest) a w := by
  refine wpList_plain hg fun K' hK' => ?_
  unfold Oper.wp
  simp [execOp, hop, hm, hx, hc.run y hy, Result.andThen]
  exact hK' _ _ hK

/-- 'm[k] = v'. -/
theorem wpList_setm (w : World) {ops : Array Oper} {rest : List Oper} {o : Oper} {a : Act} {Q : Exit → Act → World → Prop} (hg : o.guard = none) (m x v : Operand) (hop : o.op = Op.mapUpdate 94 m x v)
    (b k : Nat) (f : Int → Int) (hm : a.eval m = .map (some b)) (hc : Cnt w b k f) (hk : k ≤ 1000000000000000000) (y z : Int) (hx : a.eval x = .int .i64 y) (hv : a.eval v = .int .i64 z)
    (hy : -9223372036854775808 ≤ y ∧ y ≤ 9223372036854775807) (hz : -9223372036854775808 ≤ z ∧ z ≤ 9223372036854775807)
    (hK : ∀ w', Cnt w' b (k + 1) (fun u => if u = y then z else f u) → w.grownBy w' (some b) → wpList Tryz.prog ops Q rest (a.put o.dst undef) w') : wpList Tryz.prog ops Q (o :: rest) a w := by
  refine wpList_plain hg fun K' hK' => ?_
  obtain ⟨w', hrun, r1, r2⟩ := hc.set hk y z hy hz
  unfold Oper.wp
  simp [execOp, hop, hm, hx, hv, hrun, Result.andThen]
  exact hK' _ _ (hK w' r1 r2)

/-- How often a number stands in a list. -/
def cntV (xs : List Int) (x : Int) : Int := (xs.count x : Nat)
theorem cntV_nil : cntV [] = fun _ => 0 := by funext x; simp [cntV]
theorem cntV_snoc (xs : List Int) (y : Int) : (fun u => if u = y then cntV xs y + 1 else cntV xs u) = cntV (xs ++ [y]) := by
  funext u
  by_cases h : u = y
  · subst h; simp [cntV]
  · have : ¬ y = u := fun e => h e.symm
    simp [cntV, h, this, List.count_append]
theorem cntV_bd (xs : List Int) (x : Int) : 0 ≤ cntV xs x ∧ cntV xs x ≤ xs.length := by
  unfold cntV; exact ⟨by omega, by have := List.count_le_length (a := x) (l := xs); omega⟩
end Go.Proofs.YtdgflniahoidmaaGreat

/- A map from numbers to numbers that the call itself made, with what is there and what is not. -/
namespace Go.Proofs.YtdgflniahoidmaaGreat
open Go.RowKit Go.Maps

/-- Block b of w is a map of at most k entries: f x tells the entry of x, or that there is none. -/
def MapO (w : World) (b k : Nat) (f : Int → Option Int) : Prop :=
  ∃ D : DataW Unit, w.ownsMap Tryz.prog 3 (plainElem Tryz.prog 3) b k D ∧ IsMap D ∧
    ∀ x : Int, -9223372036854775808 ≤ x → x ≤ 9223372036854775807 → Maps.has D (.int .i64 x) = (f x).isSome ∧ D.atKey (.int .i64 x) (.lit (.int .i64 0)) = .lit (.int .i64 ((f x).getD 0))

section
variable {w w' : World} {b k : Nat} {f : Int → Option Int}
theorem MapO.made (w : World) : MapO (w.alloc (.map #[] 0)) w.heap.size 0 fun _ => none :=
  ⟨.map [], World.ownsMap_made _ _ _ _, ⟨[], rfl⟩, fun _ _ _ => ⟨rfl, rfl⟩⟩
theorem MapO.lt (h : MapO w b k f) : b < w.heap.size := let ⟨_, h1, _⟩ := h; h1.lt
theorem MapO.keep (h : MapO w b k f) (e : w'.heap[b]? = w.heap[b]?) : MapO w' b k f := by
  obtain ⟨D, ⟨es, cl, hb, r⟩, h2⟩ := h
  exact ⟨D, ⟨es, cl, e.trans hb, r⟩, h2⟩
theorem MapO.ext (h : MapO w b k f) (hx : Ext w w') : MapO w' b k f := h.keep (hx.block b h.lt)
theorem MapO.grown {row : Option Nat} (h : MapO w b k f) (hg : w.grownBy w' row) (hne : some b ≠ row) : MapO w' b k f := h.keep (hg.block b h.lt hne)
theorem MapO.mono {k' : Nat} (h : MapO w b k f) (hk : k ≤ k') : MapO w b k' f := let ⟨D, h1, h2⟩ := h; ⟨D, h1.mono hk, h2⟩
theorem MapO.ne_own {base : Nat} {v : Value} {xs : List Int} (h : MapO w b k f) (ho : OwnI w base v xs) : some b ≠ v.ownBlock := by
  obtain ⟨D, ⟨es, cl, hb, _⟩, _⟩ := h
  rcases ho.2 with ⟨rfl, _⟩ | ⟨g, cap, cur, rfl, _, hg, _⟩
  · simp [Value.ownBlock]
  · intro e
    have e' : b = g := by simpa [Value.ownBlock] using e
    subst e'
    rw [hg] at hb
    cases hb
theorem MapO.ne_blk {g : Nat} {t : TypeId} {cs : Array Value} (h : MapO w b k f) (hg : Blk w g t cs) : b ≠ g := by
  obtain ⟨D, ⟨es, cl, hb, _⟩, _⟩ := h
  rintro rfl
  unfold Blk at hg
  rw [hg] at hb
  cases hb

set_option maxRecDepth 100000 in
theorem MapO.set (h : MapO w b k f) (hk : k ≤ 1000000000000000000) (x y : Int) (hx : -9223372036854775808 ≤ x ∧ x ≤ 9223372036854775807) (hy : -9223372036854775808 ≤ y ∧ y ≤ 9223372036854775807) :
    ∃ w', (Instr.mapUpdate 94 (.map (some b)) (.int .i64 x) (.int .i64 y)).run Tryz.prog w = .ok () w' ∧ MapO w' b (k + 1) (fun z => if z = x then some y else f z) ∧ w.grownBy w' (some b) := by
  obtain ⟨D, h1, h2, h3⟩ := h
  obtain ⟨w', hrun, g1, g2⟩ := h1.update keyInt Tryz.underlying94 (by unfold maxLen; omega) (keyOf_int_mk Tryz.underlying3 (wf_i64_mk hx)) (plainElem_int Tryz.underlying3 (wf_i64_mk hy))
  refine ⟨w', hrun, ⟨_, g1, ?_, fun z hz1 hz2 => ?_⟩, g2⟩
  · obtain ⟨es, rfl⟩ := h2; exact ⟨_, rfl⟩
  · dsimp only
    by_cases e : z = x
    · subst e
      rw [if_pos rfl, atKey_put_same h2 (by trivial), has_put_same h2 (by trivial)]
      exact ⟨rfl, rfl⟩
    · rw [if_neg e, atKey_put_other (fun h => e (by injection h)), has_put_other (fun h => e (by injection h))]
      exact h3 z hz1 hz2
end

/-- 'v, ok := m[k]'. -/
theorem wpList_lookO (w : World) {ops : Array Oper} {rest : List Oper} {o : Oper} {a : Act} {Q : Exit → Act → World → Prop} (hg : o.guard = none) (m x : Operand) (hop : o.op = Op.lookup 94 m x true)
    (b k : Nat) (f : Int → Option Int) (hm : a.eval m = .map (some b)) (hc : MapO w b k f) (y : Int) (hx : a.eval x = .int .i64 y) (hy : -9223372036854775808 ≤ y ∧ y ≤ 9223372036854775807)
    (hK : wpList Tryz.prog ops Q rest (a.put o.dst (.tuple #[.int .i64 ((f y).getD 0), .bool (f y).isSome])) w) : wpList Tryz.prog ops Q (o :: rest) a w := by
  obtain ⟨D, h1, _, h3⟩ := hc
  obtain ⟨e1, e2⟩ := h3 y hy.1 hy.2
  refine wpList_lookup_own_ok_int w hg m x _ hop 3 3 .i64 keyInt Tryz.underlying94 Tryz.underlying3 (zeroInt w) b k D hm h1 _ _ hx (keyOf_int_mk Tryz.underlying3 (wf_i64_mk hy)) ?_
  intro c hat _
  rw [e2] at hat
  injection hat with hat
  injection hat with _ hat
  rw [e1, ← hat]
  exact hK

/-- 'm[k] = v'. -/
theorem wpList_setO (w : World) {ops : Array Oper} {rest : List Oper} {o : Oper} {a : Act} {Q : Exit → Act → World → Prop} (hg : o.guard = none) (m x v : Operand) (hop : o.op = Op.mapUpdate 94 m x v)
    (b k : Nat) (f : Int → Option Int) (hm : a.eval m = .map (some b)) (hc : MapO w b k f) (hk : k ≤ 1000000000000000000) (y z : Int) (hx : a.eval x = .int .i64 y) (hv : a.eval v = .int .i64 z)
    (hy : -9223372036854775808 ≤ y ∧ y ≤ 9223372036854775807) (hz : -9223372036854775808 ≤ z ∧ z ≤ 9223372036854775807)
    (hK : ∀ w', MapO w' b (k + 1) (fun u => if u = y then some z else f u) → w.grownBy w' (some b) → wpList Tryz.prog ops Q rest (a.put o.dst undef) w') : wpList Tryz.prog ops Q (o :: rest) a w := by
  refine wpList_plain hg fun K' hK' => ?_
  obtain ⟨w', hrun, r1, r2⟩ := hc.set hk y z hy hz
  unfold Oper.wp
  simp [execOp, hop, hm, hx, hv, hrun, Result.andThen]
  exact hK' _ _ (hK w' r1 r2)
end Go.Proofs.YtdgflniahoidmaaGreat
