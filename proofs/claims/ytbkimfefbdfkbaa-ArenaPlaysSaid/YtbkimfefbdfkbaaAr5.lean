/- Layer 12 (arena): Drop. -/
import Derived.Test.YtbkimfefbdfkbaaAr4
set_option maxRecDepth 100000
namespace Go.Proofs.Ytbkimfefbdfkbaa
open Go.RowKit Go.Maps

set_option maxRecDepth 100000 in
theorem Cnt.del {w : World} {b k : Nat} {f : Int → Int} (h : Cnt w b k f) (x : Int) (hx : -9223372036854775808 ≤ x ∧ x ≤ 9223372036854775807) (ty : TypeId) :
    ∃ w', (Builtin.delete_ #[94, 3] ty #[.map (some b), .int .i64 x]).run Try.prog w = .ok (.tuple #[]) w' ∧ Cnt w' b k (fun z => if z = x then 0 else f z) ∧ w.grownBy w' (some b) := by
  obtain ⟨D, h1, h2, h3⟩ := h
  obtain ⟨w', hrun, g1, g2⟩ := h1.drop keyInt Try.underlying94 (keyOf_int_mk Try.underlying3 (wf_i64_mk hx)) ty
  refine ⟨w', hrun, ⟨_, g1, g1.isMap, fun z hz1 hz2 => ?_⟩, g2.grown⟩
  show _ = DataW.lit (Lit.int .i64 (if z = x then 0 else f z))
  by_cases e : z = x
  · subst e
    rw [if_pos rfl, atKey_del_same]
  · rw [if_neg e, atKey_del_other (fun h => e (by injection h)), h3 z hz1 hz2]
theorem wpList_delm (w : World) {ops : Array Oper} {rest : List Oper} {o : Oper} {a : Act} {Q : Exit → Act → World → Prop} (hg : o.guard = none) (m x : Operand) (hop : o.op = Op.call { callee := Callee.builtin Builtin.delete, args := #[m, x], argTypes := #[94, 3] })
    (b k : Nat) (f : Int → Int) (hm : a.eval m = .map (some b)) (hc : Cnt w b k f) (y : Int) (hx : a.eval x = .int .i64 y) (hy : -9223372036854775808 ≤ y ∧ y ≤ 9223372036854775807)
    (hK : ∀ w', Cnt w' b k (fun z => if z = y then 0 else f z) → w.grownBy w' (some b) → wpList Try.prog ops Q rest (a.put o.dst (.tuple #[])) w') : wpList Try.prog ops Q (o :: rest) a w := by
  refine wpList_plain hg fun K' hK' => ?_
  obtain ⟨w', hrun, r1, r2⟩ := hc.del y hy o.type
  unfold Oper.wp
  simp [execOp, hop, resolve, invoke, builtin, hm, hx, hrun, Result.andThen]
  exact hK' _ _ (hK w' r1 r2)

/-- The blocks of an arena; it has become S, nothing else has turned. -/
def ArF (p mb : Nat) (lv : Value) (b : Nat) : Prop := b = p ∨ b = mb ∨ lv.ownBlock = some b
def ArNext (w w' : World) (base p mb : Nat) (lv : Value) (K : Nat) (S : ASt) : Prop :=
  ∃ lv' mb', ArMem w' base p mb' lv' K S ∧ Stay (ArF p mb lv) w w' ∧ ∀ b, ArF p mb' lv' b → ArF p mb lv b ∨ w.heap.size ≤ b
theorem RowI.ne_blk {w : World} {base g : Nat} {v : Value} {xs : List Int} {t : TypeId} {cs : Array Value} (h : RowI w base v xs) (hg : Blk w g t cs) (hne : 3 ≠ t) : v.ownBlock ≠ some g := by
  rcases h with ⟨rfl, _⟩ | ⟨g', cap, cur, rfl, _, hg', _⟩
  · exact fun e => by cases e
  · intro e
    have e' : g' = g := Option.some.inj e
    subst e'
    exact hg'.ne_ hg hne rfl
theorem Cnt.ne_row {w : World} {b k base : Nat} {f : Int → Int} {v : Value} {xs : List Int} (h : Cnt w b k f) (ho : RowI w base v xs) : v.ownBlock ≠ some b := by
  obtain ⟨D, ⟨es, cl, hb, _⟩, _⟩ := h
  rcases ho with ⟨rfl, _⟩ | ⟨g', cap, cur, rfl, _, hg', _⟩
  · exact fun e => by cases e
  · intro e
    have e' : g' = b := Option.some.inj e
    subst e'
    unfold Blk at hg'
    rw [hg'] at hb; cases hb
theorem Cnt.ne_blk2 {w : World} {b k g : Nat} {f : Int → Int} {t : TypeId} {cs : Array Value} (h : Cnt w b k f) (hg : Blk w g t cs) : b ≠ g := by
  obtain ⟨D, ⟨es, cl, hb, _⟩, _⟩ := h
  rintro rfl
  unfold Blk at hg
  rw [hg] at hb; cases hb
theorem ArMem.lt {w : World} {base p mb K : Nat} {lv : Value} {S : ASt} (h : ArMem w base p mb lv K S) {b : Nat} (hb : ArF p mb lv b) : base ≤ b ∧ b < w.heap.size := by
  rcases hb with rfl | rfl | hb
  · exact ⟨h.bp, h.blk.lt⟩
  · exact ⟨h.bm, h.heads.lt⟩
  · exact h.row.lt b hb
theorem ArMem.same {w w' : World} {base p mb K : Nat} {lv : Value} {S : ASt} (h : ArMem w base p mb lv K S) (hs : ∀ b, b < w.heap.size → ArF p mb lv b → w'.heap[b]? = w.heap[b]?) : ArMem w' base p mb lv K S :=
  ⟨(hs p h.blk.lt (Or.inl rfl)).trans h.blk, h.row.keep fun k e => hs k (h.row.lt k e).2 (Or.inr (Or.inr e)), h.heads.keep (hs mb h.heads.lt (Or.inr (Or.inl rfl))), h.bp, h.bm, h.inv, h.sm, h.sk⟩
theorem ArNext.refl {w w' : World} {base p mb K : Nat} {lv : Value} {S : ASt} (h : ArMem w base p mb lv K S) (hx : Ext w w') (hK : K + 1 ≤ 1000000) : ArNext w w' base p mb lv (K + 1) S :=
  ⟨lv, mb, ⟨h.blk.ext hx, h.row.ext hx, (h.heads.ext hx).mono (by omega), h.bp, h.bm, h.inv, by have := h.sm; omega, hK⟩, Ext.stay hx, fun b hb => Or.inl hb⟩

/-- A row changes, its places stay. -/
theorem step_inv {S : ASt} (h : AInv S) {x : Int} {i : Nat} {r : ARow} (hi : S.rows.findIdx? (atP x) = some i) (hr : S.rows[i]? = some r) (f : ARow → ARow) (h1 : (f r).pos = r.pos) (h2 : (f r).lits.length = r.lits.length) (h3 : (f r).id = r.id) (h4 : ∀ y ∈ (f r).lits, -100000 ≤ y ∧ y ≤ 100000) :
    stepAt S.rows x f = S.rows.set i (f r) ∧ AInv ⟨S.rows.set i (f r), S.size⟩ := by
  have hl := (List.getElem?_eq_some_iff.1 hr).1
  have hs : stepAt S.rows x f = S.rows.set i (f r) := by unfold stepAt; rw [hi]; simp only [hr]
  have hlen : ∀ j, (flatA ((S.rows.set i (f r)).take j)).length = (flatA (S.rows.take j)).length := by
    intro j
    induction j with
    | zero => rfl
    | succ j ih =>
      by_cases hj : j < S.rows.length
      · have e1 : S.rows[j]? = some S.rows[j] := List.getElem?_eq_getElem hj
        by_cases e : i = j
        · subst e
          have e2 : (S.rows.set i (f r))[i]? = some (f r) := by rw [List.getElem?_set_self hl]
          rw [take_flat e2, take_flat hr, ih, h2]
        · have e2 : (S.rows.set i (f r))[j]? = some S.rows[j] := by rw [List.getElem?_set_ne e]; exact e1
          rw [take_flat e2, take_flat e1, ih]
      · rw [List.take_of_length_le (by rw [List.length_set]; omega), List.take_of_length_le (by omega)]
        rw [List.take_of_length_le (by rw [List.length_set]; omega), List.take_of_length_le (by omega)] at ih
        exact ih
  refine ⟨hs, ⟨fun j a ha => ?_, ?_, fun a ha => ?_⟩⟩
  · show a.pos = _
    rw [hlen j]
    by_cases e : i = j
    · subst e
      have : (S.rows.set i (f r))[i]? = some a := ha
      rw [List.getElem?_set_self hl] at this
      cases this
      rw [h1]; exact h.pos i r hr
    · have : (S.rows.set i (f r))[j]? = some a := ha
      rw [List.getElem?_set_ne e] at this
      exact h.pos j a this
  · have := hlen S.rows.length
    rw [List.take_of_length_le (by simp), List.take_of_length_le (Nat.le_refl _)] at this
    show S.size = _
    rw [this]; exact h.size
  · rcases List.mem_or_eq_of_mem_set ha with hm | rfl
    · exact h.ok a hm
    · have hk := h.ok r (List.mem_of_getElem? hr)
      exact ⟨by rw [h3]; exact hk.1, by rw [h2]; exact hk.2.1, h4⟩
end Go.Proofs.Ytbkimfefbdfkbaa
