/- A region that draws its order, of which the last operation stores a whole element into a block of its own. -/
import Derived.Test.YtbkimfefbdfkbaaRegL
import Derived.Test.YtbkimfefbdfkbaaGen
set_option maxRecDepth 100000
namespace Go.Proofs.Ytbkimfefbdfkbaa
open Go.RowKit

theorem any_dst {l : List Oper} {t : Nat} (h : (l.any fun o => o.dst == some t) = true) : ∃ o ∈ l, o.dst = some t := by
  rw [List.any_eq_true] at h
  obtain ⟨o, ho, h1⟩ := h
  exact ⟨o, ho, by simpa using h1⟩

theorem wp_store_own {o : Oper} {Q : Exit → Act → World → Prop} {K : Act → World → Prop} {a : Act} {w : World} (ty : TypeId) (p q : Tmp) (ho : o.op = .store ty (.tmp p) (.tmp q)) (hd : o.dst = none)
    (g : Nat) (cells : Array Value) (t : TypeId) (cur : Array Value) (hx : a.tmps.getD p undef = .pointer (some ⟨g, 0, none⟩)) (hy : a.tmps.getD q undef = .agg cells) (hg : Blk w g t cur) (hl : cells.size = cur.size)
    (hi : (Try.prog.info? ty).map (·.size) = some cells.size) (h1 : cells.all (·.oneCell') = true)
    (h : ∀ w', Blk w' g t cells → w.grownBy w' (some g) → K a w') : o.wp Try.prog a w K Q := by
  obtain ⟨w', cur', hrun, hb, hgr, hsz, hget⟩ := run_storeAt (P := Try.prog) g 0 t cells.toList 0 cur w hg (by simp; omega) (fun v hv => (Array.all_eq_true_iff_forall_mem.1 h1) v (by simpa using hv))
  have hcur : cur' = cells := by
    apply Array.ext
    · omega
    · intro i h2 h3
      have := hget i
      rw [if_pos (by simp; omega)] at this
      simp at this
      have e1 : cur'[i]? = some cur'[i] := Array.getElem?_eq_getElem h2
      rw [e1] at this
      rw [Array.getElem?_eq_getElem h3] at this
      exact Option.some.inj this
  subst hcur
  have hr : (storeVar ty ⟨g, 0, none⟩ (.agg cur')).run Try.prog w = .ok () w' := by
    cases hq : Try.prog.info? ty with
    | none => simp [hq] at hi
    | some i =>
      have hs : cur'.size = i.size := by simp [hq] at hi; omega
      simp [storeVar, sizeOf, typeInfo, hq, Value.cells, hs, hrun]
  have ex : a.eval (.tmp p) = .pointer (some ⟨g, 0, none⟩) := hx
  have ey : a.eval (.tmp q) = .agg cur' := hy
  unfold Oper.wp execOp
  simp only [ho, ex, ey, Instr.storeAt, Instr.sureAddr, Sem.run_bind, Sem.run_pure, Result.andThen_ok, hr]
  have e : a.put o.dst undef = a := by rw [hd]; rfl
  have hh := h w' hb hgr
  rw [← e] at hh
  exact hh

section
variable {Q : Exit → Act → World → Prop} {a0 : Act}
/-- **The region's law**: the last operation stores a whole element (slot q) into a block (slot p); all others come first, in any order. -/
theorem wp_region_lastS {id : Nat} {l : List Oper} {w : World} (S : Nat → Value → World → Prop) (ty : TypeId) (p q : Tmp) (hlast : (l.getLast?.map fun s => (s.op, s.dst, s.guard)) = some (Op.store ty (.tmp p) (.tmp q), none, none))
    (hone : ((List.range (l.length - 1)).all fun i => match l[i]? with | some o => o.dst.isSome | none => true) = true) (hfm : Try.prog.follows .mixedOrders = true) (hd : depsOk l.toArray a0.tmps.size = true)
    (hc : coversB l.toArray = true) (hp : (l.any fun o => o.dst == some p) = true) (hq : (l.any fun o => o.dst == some q) = true) (hpl : p < a0.tmps.size) (hql : q < a0.tmps.size)
    (hst : ∀ t v w w', S t v w → Ext w w' → S t v w')
    (h0 : ∀ t, (∀ o ∈ l, o.dst ≠ some t) → S t (a0.tmps.getD t undef) w)
    (hop : ∀ o ∈ l, o.dst.isSome = true → ROpG l.toArray Q S w o)
    (hend : ∀ (v : Nat → Value) (w' : World), Ext w w' → (∀ t, (l.any fun o => o.dst == some t) = true → S t (v t) w') →
      ∃ (g : Nat) (cells : Array Value) (t : TypeId) (cur : Array Value), v p = .pointer (some ⟨g, 0, none⟩) ∧ v q = .agg cells ∧ Blk w' g t cur ∧ cells.size = cur.size ∧ (Try.prog.info? ty).map (·.size) = some cells.size ∧ cells.all (·.oneCell') = true ∧
        ∀ w'', Blk w'' g t cells → w'.grownBy w'' (some g) → Q .normal { tmps := fill l v a0.tmps, defers := a0.defers } w'') :
    (Code.region id l.toArray true).wp Try.prog Q a0 w := by
  cases hs : l.getLast? with
  | none => rw [hs] at hlast; cases hlast
  | some s =>
    rw [hs] at hlast
    simp only [Option.map_some, Option.some.injEq, Prod.mk.injEq] at hlast
    refine wp_region_lastF S s hs hone hfm hd hc hlast.2.2 hlast.2.1 hst h0 hop (fun v w' hx hv => ?_)
    obtain ⟨g, cells, t, cur, h1, h2, h3, h4, h5, h6, h7⟩ := hend v w' hx (fun t ht => hv t (any_dst ht))
    have fo : ∀ t, (l.any fun o => o.dst == some t) = true → t < a0.tmps.size → (fill l v a0.tmps).getD t undef = v t := fun t ht hlt => by
      have h8 := fill_on v l a0.tmps (any_dst ht) hlt
      have h9 : t < (fill l v a0.tmps).size := by rw [fill_size]; exact hlt
      rw [Array.getElem?_eq_getElem h9] at h8
      simp only [Array.getD, h9, dif_pos]
      exact Option.some.inj h8
    exact wp_store_own ty p q hlast.1 hlast.2.1 g cells t cur ((fo p hp hpl).trans h1) ((fo q hq hql).trans h2) h3 h4 h5 h6 (fun w'' h8 h9 => h7 w'' h8 h9)
end
end Go.Proofs.Ytbkimfefbdfkbaa
