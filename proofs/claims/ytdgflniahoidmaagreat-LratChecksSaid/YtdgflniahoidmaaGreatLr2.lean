/- Layer 11 (lrat): put. -/
import Derived.Test.YtdgflniahoidmaaGreatLrP
import Derived.Test.YtdgflniahoidmaaGreatMapV
import Derived.Test.YtdgflniahoidmaaGreatApp
import Derived.Deep.RegionHeld3
import Derived.Deep.RegionLaw
set_option maxRecDepth 100000
namespace Go.Proofs.YtdgflniahoidmaaGreat
open Go.RowKit Go.Maps

/-! ### map[int][]int -/
section
variable {w w' : World} {b k : Nat} {f : Int → Option Value}
set_option maxRecDepth 100000 in
theorem MapV.setI (h : MapV w b k f) (hk : k ≤ 1000000000000000000) (x : Int) (y : Value) (hx : -9223372036854775808 ≤ x ∧ x ≤ 9223372036854775807) :
    ∃ w', (Instr.mapUpdate 56 (.map (some b)) (.int .i64 x) y).run Tryz.prog w = .ok () w' ∧ MapV w' b (k + 1) (fun z => if z = x then some y else f z) ∧ w.grownBy w' (some b) := by
  obtain ⟨D, h1, h2, h3⟩ := h
  obtain ⟨w', hrun, g1, g2⟩ := h1.update keyInt Tryz.underlying56 (by unfold maxLen; omega) (keyOf_int_mk Tryz.underlying3 (wf_i64_mk hx)) (d := .held y) (ps := []) rfl
  refine ⟨w', hrun, ⟨_, g1, ?_, fun z hz1 hz2 => ?_⟩, g2⟩
  · obtain ⟨es, rfl⟩ := h2; exact ⟨_, rfl⟩
  · dsimp only
    by_cases e : z = x
    · subst e
      rw [if_pos rfl, atKey_put_same h2 (by trivial), has_put_same h2 (by trivial)]
      exact ⟨rfl, rfl⟩
    · rw [if_neg e, atKey_put_other (fun h => e (by injection h)), has_put_other (fun h => e (by injection h))]
      exact h3 z hz1 hz2
set_option maxRecDepth 100000 in
theorem MapV.delI (h : MapV w b k f) (x : Int) (hx : -9223372036854775808 ≤ x ∧ x ≤ 9223372036854775807) (ty : TypeId) :
    ∃ w', (Builtin.delete_ #[56, 3] ty #[.map (some b), .int .i64 x]).run Tryz.prog w = .ok (.tuple #[]) w' ∧ MapV w' b k (fun z => if z = x then none else f z) ∧ w.grownBy w' (some b) := by
  obtain ⟨D, h1, h2, h3⟩ := h
  obtain ⟨w', hrun, g1, g2⟩ := h1.drop keyInt Tryz.underlying56 (keyOf_int_mk Tryz.underlying3 (wf_i64_mk hx)) ty
  refine ⟨w', hrun, ⟨_, g1, ?_, fun z hz1 hz2 => ?_⟩, g2.grown⟩
  · obtain ⟨es, rfl⟩ := h2; exact ⟨_, rfl⟩
  · dsimp only
    by_cases e : z = x
    · subst e
      rw [if_pos rfl, atKey_del_same, has_del_same]
      exact ⟨rfl, rfl⟩
    · rw [if_neg e, atKey_del_other (fun h => e (by injection h)), has_del_other (fun h => e (by injection h))]
      exact h3 z hz1 hz2
set_option maxRecDepth 100000 in
theorem MapV.lookI (h : MapV w b k f) (x : Int) (hx : -9223372036854775808 ≤ x ∧ x ≤ 9223372036854775807) (ok : Bool) :
    (Instr.lookup 56 (.map (some b)) (.int .i64 x) ok).run Tryz.prog w = .ok (if ok then .tuple #[(f x).getD nilV, .bool (f x).isSome] else (f x).getD nilV) w := by
  obtain ⟨D, h1, _, h3⟩ := h
  obtain ⟨e1, e2⟩ := h3 x hx.1 hx.2
  have key : ∀ v ps, asIs v = some (DataW.held ((f x).getD nilV), ps) → v = (f x).getD nilV := fun v ps hv => by
    unfold asIs at hv
    injection hv with hv
    injection hv with hv _
    injection hv
  cases ok with
  | true =>
    obtain ⟨v, ps, hrun, hv⟩ := h1.look_ok keyInt Tryz.underlying56 (z := nilV) (by kernel_rfl) (zd := .held nilV) (zp := []) rfl (keyOf_int_mk Tryz.underlying3 (wf_i64_mk hx))
    rw [e2] at hv
    rw [hrun, e1, key v ps hv]; rfl
  | false =>
    obtain ⟨v, ps, hrun, hv⟩ := h1.lookup keyInt Tryz.underlying56 (z := nilV) (by kernel_rfl) (zd := .held nilV) (zp := []) rfl (keyOf_int_mk Tryz.underlying3 (wf_i64_mk hx))
    rw [e2] at hv
    rw [hrun, key v ps hv]; rfl
end
theorem wpList_setI (w : World) {ops : Array Oper} {rest : List Oper} {o : Oper} {a : Act} {Q : Exit → Act → World → Prop} (hg : o.guard = none) (m x v : Operand) (hop : o.op = Op.mapUpdate 56 m x v)
    (b k : Nat) (f : Int → Option Value) (hm : a.eval m = .map (some b)) (hc : MapV w b k f) (hk : k ≤ 1000000000000000000) (y : Int) (z : Value) (hx : a.eval x = .int .i64 y) (hv : a.eval v = z)
    (hy : -9223372036854775808 ≤ y ∧ y ≤ 9223372036854775807)
    (hK : ∀ w', MapV w' b (k + 1) (fun u => if u = y then some z else f u) → w.grownBy w' (some b) → wpList Tryz.prog ops Q rest (a.put o.dst undef) w') : wpList Tryz.prog ops Q (o :: rest) a w := by
  refine wpList_plain hg fun K' hK' => ?_
  obtain ⟨w', hrun, r1, r2⟩ := hc.setI hk y z hy
  unfold Oper.wp
  simp [execOp, hop, hm, hx, hv, hrun, Result.andThen]
  exact hK' _ _ (hK w' r1 r2)
theorem wpList_delI (w : World) {ops : Array Oper} {rest : List Oper} {o : Oper} {a : Act} {Q : Exit → Act → World → Prop} (hg : o.guard = none) (m x : Operand) (hop : o.op = Op.call { callee := Callee.builtin Builtin.delete, args := #[m, x], argTypes := #[56, 3] })
    (b k : Nat) (f : Int → Option Value) (hm : a.eval m = .map (some b)) (hc : MapV w b k f) (y : Int) (hx : a.eval x = .int .i64 y) (hy : -9223372036854775808 ≤ y ∧ y ≤ 9223372036854775807)
    (hK : ∀ w', MapV w' b k (fun z => if z = y then none else f z) → w.grownBy w' (some b) → wpList Tryz.prog ops Q rest (a.put o.dst (.tuple #[])) w') : wpList Tryz.prog ops Q (o :: rest) a w := by
  refine wpList_plain hg fun K' hK' => ?_
  obtain ⟨w', hrun, r1, r2⟩ := hc.delI y hy o.type
  unfold Oper.wp
  simp [execOp, hop, resolve, invoke, builtin, hm, hx, hrun, Result.andThen]
  exact hK' _ _ (hK w' r1 r2)

/-- A checker's blocks. -/
def ChF (p b : Nat) (j : Nat) : Prop := j = p ∨ j = b
/-- A value that is held reads as a clause. -/
def RowAt (w : World) : Option Value → Option (List Int) → Prop
  | none, none => True
  | some u, some xs => OwnI w 0 u xs
  | _, _ => False
theorem RowAt.imp {w w' : World} {o : Option Value} {q : Option (List Int)} (h : RowAt w o q) (hk : ∀ u xs, OwnI w 0 u xs → OwnI w' 0 u xs) : RowAt w' o q := by
  cases o <;> cases q
  · trivial
  · exact h.elim
  · exact h.elim
  · exact hk _ _ h
/-- The map of the rows R. -/
def MapC (w : World) (b : Nat) (n : Int) (R : List (Int × List Int)) : Prop :=
  ∃ (k : Nat) (f : Int → Option Value), (k : Int) ≤ n ∧ MapV w b k f ∧ ∀ x, RowAt w (f x) (getR R x)
/-- The memory of a checker. -/
structure CMem (w : World) (p b : Nat) (S : CSt) : Prop where
  blk : Blk w p 58 #[.map (some b), .int .i64 S.last, .bool S.done]
  map : MapC w b S.last S.rows
theorem MapC.ext {w w' : World} {b : Nat} {n : Int} {R : List (Int × List Int)} (h : MapC w b n R) (hx : Ext w w') : MapC w' b n R := by
  obtain ⟨k, f, h1, h2, h3⟩ := h
  exact ⟨k, f, h1, h2.ext hx, fun x => (h3 x).imp fun _ _ a => a.ext hx⟩
theorem CMem.ext {w w' : World} {p b : Nat} {S : CSt} (h : CMem w p b S) (hx : Ext w w') : CMem w' p b S := ⟨h.blk.ext hx, h.map.ext hx⟩
theorem MapC.lt {w : World} {b : Nat} {n : Int} {R : List (Int × List Int)} (h : MapC w b n R) : b < w.heap.size := let ⟨_, _, _, h2, _⟩ := h; h2.lt
theorem CMem.ne {w : World} {p b : Nat} {S : CSt} (h : CMem w p b S) : b ≠ p := let ⟨_, _, _, h2, _⟩ := h.map; h2.ne_blk h.blk
/-- What a look-up brings: a slice that reads as the clause. -/
theorem MapC.at {w : World} {b : Nat} {n : Int} {R : List (Int × List Int)} (h : MapC w b n R) (hw : ∀ p ∈ R, p.2.length ≤ 1000 ∧ ∀ x ∈ p.2, -100000 ≤ x ∧ x ≤ 100000) (x : Int) (hx : -9223372036854775808 ≤ x ∧ x ≤ 9223372036854775807) (ok : Bool) :
    ∃ A m c, (Instr.lookup 56 (.map (some b)) (.int .i64 x) ok).run Tryz.prog w = .ok (if ok then .tuple #[.slice A m c, .bool (getR R x).isSome] else .slice A m c) w ∧ IntSl w A m ((getR R x).getD []) ∧ m ≤ 1000 ∧ m ≤ c := by
  obtain ⟨k, f, _, h2, h3⟩ := h
  have hl := h2.lookI x hx ok
  have e := h3 x
  cases hf : f x <;> cases hR : getR R x <;> rw [hf, hR] at e
  · rw [hf] at hl
    exact ⟨none, 0, 0, hl, IntSl.nil w, by decide, by decide⟩
  · exact e.elim
  · exact e.elim
  · rename_i u xs
    have h45 : xs.length ≤ 1000 ∧ ∀ y ∈ xs, -100000 ≤ y ∧ y ≤ 100000 := hw _ (getR_mem hR)
    obtain ⟨h4, h5⟩ := h45
    obtain ⟨A, m, c, rfl, hs, hmc⟩ := OwnI.slc e (by omega) (fun y hy => by have := h5 y hy; omega)
    rw [hf] at hl
    exact ⟨A, m, c, hl, hs, by have e1 : xs.length = m := hs.1; omega, hmc⟩

theorem made_c (w : World) (p b : Nat) (S : CSt) (h : CMem w p b S) : Calls Tryz.prog 24 #[.pointer (some ⟨p, 0, none⟩)] w fun e w' => e = .returned (.bool true) ∧ w = w' := by
  have c0 := h.blk.cell 0
  have hq := fun W => run_neq_map_nil (P := Tryz.prog) W 56 3 42 (some b) Tryz.underlying56
  go_enter Tryz.func24, Tryz.ntmps24
  go_wp2
  go_ret
  exact ⟨rfl, rfl⟩

theorem madeNil_c (w : World) : Calls Tryz.prog 24 #[.pointer none] w fun e w' => e = .returned (.bool false) ∧ w = w' := by
  go_enter Tryz.func24, Tryz.ntmps24
  go_wp2
  go_ret
  exact ⟨rfl, rfl⟩

theorem done_c (w : World) (p b : Nat) (S : CSt) (h : CMem w p b S) : Calls Tryz.prog 16 #[.pointer (some ⟨p, 0, none⟩)] w fun e w' => e = .returned (.bool S.done) ∧ w = w' := by
  have c2 := h.blk.cell 2
  go_enter Tryz.func16, Tryz.ntmps16
  go_wp2_with fail
  refine (made_c w p b S h).mono ?_
  rintro e w' ⟨rfl, rfl⟩
  go_wp2_with fail
  go_ret
  exact ⟨rfl, rfl⟩

theorem doneNil_c (w : World) : Calls Tryz.prog 16 #[.pointer none] w fun e w' => e = .returned (.bool false) ∧ w = w' := by
  go_enter Tryz.func16, Tryz.ntmps16
  go_wp2_with fail
  refine (madeNil_c w).mono ?_
  rintro e w' ⟨rfl, rfl⟩
  go_wp2_with fail
  go_ret
  exact ⟨rfl, rfl⟩

theorem clause11_c (w : World) (p b : Nat) (S : CSt) (h : CMem w p b S) (hi : Inv11 S) (i : Int) (hx : -9223372036854775808 ≤ i ∧ i ≤ 9223372036854775807) :
    Calls Tryz.prog 68 #[.pointer (some ⟨p, 0, none⟩), .int .i64 i] w fun e w' => (∃ A m c, e = .returned (.slice A m c) ∧ IntSl w A m ((getR S.rows i).getD []) ∧ m ≤ 1000 ∧ m ≤ c) ∧ w = w' := by
  have c0 := h.blk.cell 0
  obtain ⟨A, m, c, hl, hs, hm, hmc⟩ := h.map.at hi.wide i hx false
  rw [if_neg (by decide)] at hl
  go_enter Tryz.func68, Tryz.ntmps68
  go_wp2
  go_ret
  exact ⟨⟨A, m, c, rfl, hs, hm, hmc⟩, rfl⟩

/-- What Clause hands back. -/
def RetClause (R : List (Int × List Int)) (i : Int) (w : World) (e : Ending) (w' : World) : Prop := ∃ v, e = .returned (.tuple #[v, .bool (getR R i).isSome]) ∧ OwnI w' w.heap.size v ((getR R i).getD []) ∧ Ext w w'
theorem Clause_c (w : World) (p b : Nat) (S : CSt) (h : CMem w p b S) (hi : Inv11 S) (i : Int) (hx : -9223372036854775808 ≤ i ∧ i ≤ 9223372036854775807) :
    Calls Tryz.prog 12 #[.pointer (some ⟨p, 0, none⟩), .int .i64 i] w (RetClause S.rows i w) := by
  have c0 := h.blk.cell 0
  obtain ⟨A, m, c, hl, hs, hm, hmc⟩ := h.map.at hi.wide i hx true
  rw [if_pos rfl] at hl
  go_enter Tryz.func12, Tryz.ntmps12
  go_wp2_with fail
  refine (made_c w p b S h).mono ?_
  rintro e w' ⟨rfl, rfl⟩
  go_wp2_with fail
  refine (clone_c _ _ _ _ _ hs (by omega)).mono ?_
  rintro e w' ⟨v, rfl, hv, hx⟩
  go_wp2_with fail
  go_ret2
  exact ⟨v, rfl, hv, hx⟩
end Go.Proofs.YtdgflniahoidmaaGreat

namespace Go.Proofs.YtdgflniahoidmaaGreat
open Go.RowKit Go.Maps

theorem step_setI (w : World) {ops : Array Oper} {o : Oper} {a : Act} {K : Act → World → Prop} {Q : Exit → Act → World → Prop} {E : Prop} (hgd : o.guard = none) (m x v : Operand) (hop : o.op = Op.mapUpdate 56 m x v)
    (b k : Nat) (f : Int → Option Value) (hm : a.eval m = .map (some b)) (hc : MapV w b k f) (hk : k ≤ 1000000000000000000) (y : Int) (z : Value) (hx : a.eval x = .int .i64 y) (hv : a.eval v = z)
    (hy : -9223372036854775808 ≤ y ∧ y ≤ 9223372036854775807)
    (h : ∀ w', MapV w' b (k + 1) (fun u => if u = y then some z else f u) → w.grownBy w' (some b) → K (a.put o.dst undef) w') :
    if Region.wanted o (yielded ops a.tmps) = true then Oper.wp Tryz.prog o a w K Q else E := by
  have hw : Region.wanted o (yielded ops a.tmps) = true := by simp [Region.wanted, hgd]
  rw [if_pos hw]
  obtain ⟨w', hrun, r1, r2⟩ := hc.setI hk y z hy
  unfold Oper.wp
  simp [execOp, hop, hm, hx, hv, hrun, Result.andThen]
  exact h w' r1 r2

theorem getR_snoc {R : List (Int × List Int)} {i : Int} {l : List Int} (h : getR R i = none) (x : Int) : getR (R ++ [(i, l)]) x = if x = i then some l else getR R x := by
  unfold getR at *
  rw [Option.map_eq_none_iff] at h
  rw [List.find?_append]
  by_cases e : x = i
  · subst e
    rw [if_pos rfl, h]; simp
  · rw [if_neg e]
    have : ([(i, l)] : List (Int × List Int)).find? (fun p => p.1 == x) = none := by simp; exact fun h => e h.symm
    rw [this, Option.or_none]
theorem getR_new {R : List (Int × List Int)} {i n : Int} (h : ∀ p ∈ R, p.1 ≤ n) (hi : n < i) : getR R i = none := by
  unfold getR
  rw [Option.map_eq_none_iff, List.find?_eq_none]
  intro p hp
  have := h p hp
  simp; omega
/-- A row more. -/
theorem MapC.put {w w2 : World} {b k : Nat} {n i : Int} {f : Int → Option Value} {R : List (Int × List Int)} {v : Value} {l : List Int} (hkn : (k : Int) ≤ n) (hm : MapV w b k f) (hr : ∀ x, RowAt w (f x) (getR R x))
    (hv : OwnI w 0 v l) (hm2 : MapV w2 b (k + 1) (fun u => if u = i then some v else f u)) (hg : w.grownBy w2 (some b)) (hi : n < i) (hnew : getR R i = none) : MapC w2 b i (R ++ [(i, l)]) := by
  have keep : ∀ {u : Value} {xs : List Int}, OwnI w 0 u xs → OwnI w2 0 u xs := fun h => h.kept hg (Or.inr (Ne.symm (hm.ne_own h)))
  refine ⟨k + 1, _, by omega, hm2, fun x => ?_⟩
  rw [getR_snoc hnew]
  by_cases e : x = i
  · rw [if_pos e, if_pos e]; exact keep hv
  · rw [if_neg e, if_neg e]
    exact (hr x).imp fun _ _ a => keep a
theorem MapC.cell {w : World} {b g i : Nat} {n : Int} {R : List (Int × List Int)} {t : TypeId} {cs : Array Value} (h : MapC w b n R) (hb : Blk w g t cs) (ht : 3 ≠ t) (u : Value) : MapC (w.setCell ⟨g, i, none⟩ u) b n R := by
  obtain ⟨k, f, h1, h2, h3⟩ := h
  have hne := h2.ne_blk hb
  exact ⟨k, f, h1, h2.keep (Below.heap_setCell w _ u b hne), fun x => (h3 x).imp fun _ _ a => a.setCell (fun k hk e => by subst e; exact a.ne_blk hb ht hk) u⟩

/-- What a call leaves of a checker that it turns. -/
def ChNext (w w' : World) (p b : Nat) (S : CSt) : Prop := CMem w' p b S ∧ Stay (ChF p b) w w'

set_option maxHeartbeats 4000000 in
theorem put_c (w : World) (p b : Nat) (S : CSt) (i : Int) (A : Option Addr) (n c : Nat) (l : List Int) (h : CMem w p b S) (hi : Inv11 S) (h' : IntSl w A n l) (hlast : S.last < i) (hi2 : i ≤ 10000000) (hsm : n ≤ 1000) :
    Calls Tryz.prog 22 #[.pointer (some ⟨p, 0, none⟩), .int .i64 i, .slice A n c] w fun e w' => e = .returned (.tuple #[]) ∧ ChNext w w' p b (putR S i l) := by
  have hlow := hi.low
  have HNEW := Lib.hid (getR_new (R := S.rows) (fun q hq => (hi.ids q hq).2) hlast)
  have hne := h.ne
  have c0 : w.drew.cell? ⟨p, 0, none⟩ = some (.map (some b)) := h.blk.cell 0
  have HM := Lib.hid h.map
  have HB := Lib.hid h.blk
  have HXD : Hid (Ext w w.drew) := Lib.hid (Ext.refl w).drew
  have HL := Lib.hid (h'.ext HXD.out)
  have HLEN := Lib.hid h'.1
  clear h h' hi
  obtain ⟨k, f, hkn, hmv, hrows⟩ := HM.out
  have hk9 : k ≤ 10000000 := by omega
  have HMV := Lib.hid hmv
  have HROWS := Lib.hid hrows
  clear hmv hrows
  go_enter Tryz.func22, Tryz.ntmps22
  go_wp2
  go_region_law
    ((first
      | (go_simp; (with_reducible refine (clone_c _ _ _ l _ HL.out (by omega)).mono ?_); rintro e w4 ⟨v4, rfl, ho4, hx4⟩; have c04 := hx4.cell c0; obtain ⟨w6, hrun6, hm6, hg6⟩ := (HMV.out.ext (HXD.out.trans hx4)).setI (by omega) i v4 (by omega); have HO4 := Lib.hid ho4; have HX4 := Lib.hid (HXD.out.trans hx4); have HM6 := Lib.hid hm6; have HG6 := Lib.hid hg6; have hb6 := (HB.out.ext HX4.out).grown hg6 (fun e => hne (by cases e; rfl)); have HB6 := Lib.hid hb6; clear ho4 hx4 hm6 hg6)))
  all_goals
    clear hrun6 c0 c04
    have d1 := HB6.out.cell 1
    have e1 := HB6.out.frozen 1
    have d2 := hb6.cell 2
    have e2 := hb6.frozen 2
    have HP := Lib.hid (MapC.put hkn (HMV.out.ext HX4.out) (fun x => (HROWS.out x).imp fun _ _ a => a.ext HX4.out) (HO4.out.less (Nat.zero_le _)) HM6.out HG6.out hlast HNEW.out)
    have hb7 := HB6.out.set_ 1 (.int .i64 i)
    have d27 := hb7.cell 2
    have e27 := hb7.frozen 2
    have HB7 := Lib.hid hb7
    clear hb6 hb7 HM6
    have HPUT : ∀ X : Bool, X = (S.done || decide (n = 0)) → ∀ W : World, W = (w6.setCell ⟨p, 1, none⟩ (.int .i64 i)).setCell ⟨p, 2, none⟩ (.bool X) → ChNext w W p b (putR S i l) := by
      intro X hX W hW
      subst hW
      refine ⟨⟨?_, ?_⟩, ?_⟩
      · have := HB7.out.set_ 2 (.bool X)
        have e : (putR S i l).done = X := by rw [hX, ← HLEN.out]; rfl
        rw [e]
        exact this
      · exact (HP.out.cell HB6.out (by decide) _).cell HB7.out (by decide) _
      · exact (((Ext.stay HX4.out).grown HG6.out (fun k e => by cases e; exact .inl (.inr rfl))).setCell (.inl (.inl rfl)) _).setCell (.inl (.inl rfl)) _
    have HPUT := Lib.hid HPUT
    obtain ⟨dn, hdn⟩ : ∃ dn, S.done = dn := ⟨_, rfl⟩
    rw [hdn] at d2 d27
    have HDN := Lib.hid hdn
    clear hdn HP
    cases dn
    · by_cases hn0 : n = 0
      · subst hn0
        go_wp2
        first | go_end0 | go_ret
        exact ⟨rfl, HPUT.out _ (by rw [HDN.out]; rfl) _ rfl⟩
      · go_wp2
        first | go_end0 | go_ret
        exact ⟨rfl, HPUT.out _ (by rw [HDN.out]; simp [hn0]) _ rfl⟩
    · go_wp2
      first | go_end0 | go_ret
      exact ⟨rfl, HPUT.out _ (by rw [HDN.out]; rfl) _ rfl⟩
end Go.Proofs.YtdgflniahoidmaaGreat
