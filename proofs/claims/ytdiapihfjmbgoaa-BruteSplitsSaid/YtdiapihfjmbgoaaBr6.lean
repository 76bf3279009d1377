/- Layer 22 (brute): Count. -/
import Derived.Test.YtdiapihfjmbgoaaBr5
import Derived.Deep.RegionHeld3
set_option maxRecDepth 100000
namespace Go.Proofs.Ytdiapihfjmbgoaa
open Go.RowKit Go.Shelf
attribute [local go_sem] Oper.semAt_some

theorem KT.setCell {T : TypeId → Bool} {W : World} {g : Nat} {t : TypeId} {cs : Array Value} (hb : Blk W g t cs) (ht : T t = false) (i : Nat) (u : Value) : KT T W (W.setCell ⟨g, i, none⟩ u) := by
  refine ⟨by rw [World.size_setCell]; exact Nat.le_refl _, fun k cs' t' fz hT hk => ?_⟩
  have hne : k ≠ (⟨g, i, none⟩ : Addr).block := fun e => by
    have e' : k = g := e
    subst e'
    unfold Blk at hb
    rw [hb] at hk
    injection hk with hk
    injection hk with _ h2 _
    rw [h2, hT] at ht
    cases ht
  exact (Below.heap_setCell W _ u k hne).trans hk
theorem KT.putObj (T : TypeId → Bool) (w W : World) (l : Nat) (o o' : Obj) (_ : w.heap.size ≤ l) (h : W.heap[l]? = some o) (hc : o.isCells = false) (_ : o.isWalk = false) : KT T W (W.putObj l o') := by
  refine ⟨(grownBy_putObj' W l o').size, fun k cs t fz _ hk => ?_⟩
  refine ((grownBy_putObj' W l o').block k (Array.getElem?_eq_some_iff.1 hk).1 (fun e => ?_)).trans hk
  cases e
  rw [h] at hk
  cases hk
  cases hc
/-- What is said of a block of cells abides a turn of blocks that are none. -/
theorem blk_own {β : Type} (g : Nat) (t : TypeId) (f : β → Array Value) : Own (fun s W => Blk W g t (f s)) := fun s X Y row hs hg hrow =>
  (hg.block g hs.lt (fun e => by
    obtain ⟨o, ho, hc⟩ := hrow g e.symm
    rw [show X.heap[g]? = _ from hs] at ho; cases ho; cases hc)).trans hs

set_option maxRecDepth 100000 in
set_option maxHeartbeats 4000000 in
theorem count_c (v : Int) (A : Option Addr) (nn c : Nat) (L : List (List Int)) (w : World) (hR : RowsSl w A nn L) (hsm : nn ≤ 1000000) :
    Calls Try.prog 10 #[.agg #[.int .i64 v, .slice A nn c]] w fun e w' => e = .returned (.tuple #[.int .i64 ((setsV v L).length : Nat), .int .i64 (bCheckV v L)]) ∧ Ext w w' := by
  refine (callsIn_wide (n := 3)).1 ?_
  refine callsIn_of_wp_marks Try.func10 rfl trivial ?_ rfl
  simp only [Try.ntmps10, List.size_toArray, List.length_cons, List.length_nil, Nat.reduceAdd, Nat.reduceSub, Array.replicate_succ, Array.replicate_zero, List.push_toArray, List.append_toArray, List.nil_append, List.cons_append]
  gi_wp2_with (refine ⟨trivial, ?_⟩; gi_at_call 26; refine ((callsIn_wide (n := 2)).2 (sets_c v A nn c _)).mono ?_; rintro e w' ⟨rfl, rfl⟩)
  have hX := (((Ext.refl w).alloc (Obj.cells #[.int .i64 v, .slice A nn c] 24)).alloc (Obj.cells #[.int .i64 0] 3)).alloc (Obj.cells #[.int .i64 v, .slice A nn c] 24)
  have hb0 := ((Blk.new w 24 #[.int .i64 v, .slice A nn c]).alloc (Obj.cells #[.int .i64 0] 3)).alloc (Obj.cells #[.int .i64 v, .slice A nn c] 24)
  have hb1 := (Blk.new (w.alloc (Obj.cells #[.int .i64 v, .slice A nn c] 24)) 3 #[.int .i64 0]).alloc (Obj.cells #[.int .i64 v, .slice A nn c] 24)
  have hb2 := Blk.new ((w.alloc (Obj.cells #[.int .i64 v, .slice A nn c] 24)).alloc (Obj.cells #[.int .i64 0] 3)) 24 #[.int .i64 v, .slice A nn c]
  rw [World.size_alloc] at hb1
  rw [World.size_alloc, World.size_alloc] at hb2
  have hsz : (((w.alloc (Obj.cells #[.int .i64 v, .slice A nn c] 24)).alloc (Obj.cells #[.int .i64 0] 3)).alloc (Obj.cells #[.int .i64 v, .slice A nn c] 24)).heap.size = w.heap.size + 3 := by simp
  generalize ((w.alloc (Obj.cells #[.int .i64 v, .slice A nn c] 24)).alloc (Obj.cells #[.int .i64 0] 3)).alloc (Obj.cells #[.int .i64 v, .slice A nn c] 24) = w3 at hX hb0 hb1 hb2 hsz ⊢
  refine wpIn_rangeFunc_ownG (F := Fence.wide) rfl (by decide) (gf := 42) (lb := #[.pointer (some ⟨w.heap.size + 1 + 1, 0, none⟩)]) rfl trivial (enters_of Try.func42 (by kernel_rfl) rfl)
    (sets_stops 2 (by decide) (w.heap.size + 1 + 1) v A nn c L w3 hsm hb2 (hR.ext hX)) KT.trans (KT.putObj _ w3) (Below.refl _ _) (fun _ => rfl)
    (fun pre W => (Blk W (w.heap.size + 1) 3 #[.int .i64 (pre.length : Nat)] ∧ Blk W w.heap.size 24 #[.int .i64 v, .slice A nn c]) ∧ Below w.heap.size w W)
    (fun _ _ _ => False)
    (OwnFrom.and (OwnFrom.and (Own.from (blk_own _ _ _) _) (Own.from (blk_own _ _ (fun _ => #[.int .i64 v, .slice A nn c])) _)) (ownFrom_below (Nat.le_refl _) (by omega)))
    (fun _ _ _ _ _ hs _ _ => hs)
    ⟨⟨hb1, hb0⟩, hX⟩
    (fun x => { tmps := #[.agg #[.int .i64 v, .slice A nn c], .pointer (some ⟨w.heap.size, 0, none⟩), .int .i64 0, .int .i64 0, .pointer (some ⟨w.heap.size + 1, 0, none⟩), .agg #[.int .i64 v, .slice A nn c], .func (.func 42) #[] #[.pointer (some ⟨w.heap.size + 1 + 1, 0, none⟩)], .int .u32 x.1, undef, undef, undef, undef, undef], defers := [] }) ?assign ?body ?done ?stop
  case assign =>
    intro l x W K hK
    gi_wp2
    simpa using hK
  case body =>
    rintro l pre x W ⟨⟨hc, hf⟩, hB⟩ hlen
    have c0 := hc.cell 0
    have f0 := hc.frozen 0
    have hsl := setsV_len v L
    have hw1 : IntKind.i64.wrap ((pre.length : Int) + 1) = (pre.length : Int) + 1 := IntWalk.i64_in _ (by omega)
    gi_wp2
    refine ⟨(KeepsOthers.setCell _ _ _).from _, KT.setCell hc rfl 0 _, ⟨?_, hf.far (by simp) _⟩, hB.setCell (p := ⟨w.heap.size + 1, 0, none⟩) (by simp) _⟩
    have := hc.set_ 0 (.int .i64 ((pre.length : Int) + 1))
    rw [List.length_append]
    exact this
  case done =>
    rintro D ys W hD hS ⟨⟨hc, hf⟩, hB⟩ hK
    have hlen : ys.length = (setsV v L).length := by rw [← hS, List.length_map]
    rw [hlen] at hc
    have c0 := hc.cell 0
    have d0 := hf.cell 0
    have d1 := hf.cell 1
    clear hlen hS
    have HD := Lib.hid hK
    have HR := Lib.hid (hR.ext (show Ext w W from hB))
    have HB := Lib.hid (show Ext w W from hB)
    clear hc hf hB hK hR
    gi_wp2
    refine wpIn_wide.2 ?_
    go_region_held3 (fun w' => w'.cell? ⟨w.heap.size + 1, 0, none⟩ = some (.int .i64 ((setsV v L).length : Nat)) ∧ w'.cell? ⟨w.heap.size, 0, none⟩ = some (.int .i64 v) ∧ w'.cell? ⟨w.heap.size, 1, none⟩ = some (.slice A nn c))
      (first | with_reducible assumption | (go_split_ands; refine ⟨?_, ?_, ?_⟩ <;> (repeat (first | with_reducible assumption | (refine Ext.cell ?_ (by assumption)) | with_reducible apply Ext.drew | with_reducible exact Ext.refl _))))
      (first | (go_at_call 27; (with_reducible refine (bcheck_c v _ _ _ L _ (RowsSl.ext HR.out ?_)).mono ?_); (repeat (first | with_reducible exact Ext.refl _ | with_reducible apply Ext.alloc | with_reducible apply Ext.drew | with_reducible apply Ext.drewN | (apply Ext.trans'; assumption))); rintro e w4 ⟨rfl, hx4⟩; have e0 := (show Ext W w4 by (repeat (first | with_reducible exact Ext.refl _ | with_reducible apply Ext.alloc | with_reducible apply Ext.drew | with_reducible apply Ext.drewN | (apply Ext.trans'; assumption)))).cell c0; have e1 := (show Ext W w4 by (repeat (first | with_reducible exact Ext.refl _ | with_reducible apply Ext.alloc | with_reducible apply Ext.drew | with_reducible apply Ext.drewN | (apply Ext.trans'; assumption)))).cell d0; have e2 := (show Ext W w4 by (repeat (first | with_reducible exact Ext.refl _ | with_reducible apply Ext.alloc | with_reducible apply Ext.drew | with_reducible apply Ext.drewN | (apply Ext.trans'; assumption)))).cell d1))
    gi_wp2
    have hx5 : Ext W w4 := by (repeat (first | with_reducible exact Ext.refl _ | with_reducible apply Ext.alloc | with_reducible apply Ext.drew | with_reducible apply Ext.drewN | (apply Ext.trans'; assumption)))
    have hd5 : w4.heap[D]? = some (.deferred (some [])) := (hx5.block D (Array.getElem?_eq_some_iff.1 HD.out).1).trans HD.out
    refine ⟨by simp, .inl ⟨_, _, rfl, run_takeDeferred hd5, ?_⟩⟩
    refine ⟨.tuple #[.int .i64 ((setsV v L).length : Nat), .int .i64 (bCheckV v L)], by simp [results, Try.results10, go_sem], rfl, ?_⟩
    exact (HB.out.trans hx5).grown (grownBy_putObj' w4 D _) (fun k e => by cases e; omega)
  case stop =>
    rintro D c pre W _ _ h _
    exact h.elim
end Go.Proofs.Ytdiapihfjmbgoaa
