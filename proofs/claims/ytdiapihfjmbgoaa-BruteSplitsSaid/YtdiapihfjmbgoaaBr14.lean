/- Layer 22 (brute): a range over All; Follows. -/
import Derived.Test.YtdiapihfjmbgoaaBr13
set_option maxRecDepth 100000
namespace Go.Proofs.Ytdiapihfjmbgoaa
open Go.RowKit Go.Shelf
attribute [local go_sem] Oper.semAt_some

/-- How a round of a range over All may be left. -/
def AllPost (B : Nat) (I Ix : List S16 → World → Prop) (ys : List S16) (W : World) : Exit → Act → World → Prop
  | .normal, _, W' => KeepsFrom B W W' ∧ KT TK W W' ∧ I ys W'
  | .ret, _, W' => KeepsFrom B W W' ∧ Ix ys W'
  | _, _, _ => False

set_option maxRecDepth 100000 in
/-- A range over All: the rounds are handed truths that can be read there. -/
theorem wpIn_rangeAll {g : Operand} {ps : Array Tmp} {assign body : Code} {Q : Exit → Act → World → Prop} {a : Act} {w : World} (Fb : Nat) (v : Int) (A : Option Addr) (nn c : Nat) (L : List (List Int))
    (hg : a.eval g = .func (.func 48) #[] #[.pointer (some ⟨Fb, 0, none⟩)]) (hps : ps.size = 1) (hsm : nn ≤ 1000000) (hF : Blk w Fb 24 #[.int .i64 v, .slice A nn c]) (hR : RowsSl w A nn L)
    (I Ix : List S16 → World → Prop) (hI : OwnFrom w.heap.size I) (hIx : OwnFrom w.heap.size Ix) (h0 : I [] w)
    (hround : ∀ (l : Nat) (pre : List S16) (x : S16) (B : Option Addr) (k cc : Nat) (W : World), I pre W → w.heap.size ≤ W.heap.size → RowB W B k (bitsV x.1 v.toNat) → ∃ a₁ : Act,
      (∀ (K : Act → World → Prop), K a₁ W → assign.wpIn (Fence.wide.inRound l) 1 Try.prog (Exit.then K (fun _ _ _ => False)) { tmps := (ps.zip #[Value.slice B k cc]).foldl (fun t (p, u) => t.setIfInBounds p u) a.tmps, defers := [] } W) ∧
      (∀ W2 : World, I pre W2 → w.heap.size ≤ W2.heap.size → RowB W2 B k (bitsV x.1 v.toNat) → body.wpIn (Fence.wide.inRound l) 1 Try.prog (AllPost w.heap.size I Ix (pre ++ [x]) W2) a₁ W2))
    (hdone : ∀ (D : Nat) (ys : List S16) (W : World), w.heap.size ≤ D → ys.map Subtype.val = setsV v L → I ys W → W.heap[D]? = some (.deferred (some [])) → Q .normal { a with defers := { target := .collected D, args := #[] } :: a.defers } W)
    (hstop : ∀ (D : Nat) (pre : List S16) (W : World), w.heap.size ≤ D → (∃ k, k < (setsV v L).length ∧ pre.map Subtype.val = (setsV v L).take (k + 1)) → Ix pre W → W.heap[D]? = some (.deferred (some [])) → Code.ret.wpIn Fence.wide 5 Try.prog Q { a with defers := { target := .collected D, args := #[] } :: a.defers } W) :
    (Code.rangeFunc g ps assign body).wpIn Fence.wide 5 Try.prog Q a w := by
  refine wpIn_rangeFunc ?_
  intro fn hfn
  -- the record of the loop, whatever its state
  obtain ⟨rec, hrec⟩ : ∃ rec : LoopState → Option Code → Loop, rec = fun st pe => { state := st, pending := pe, fn, tmps := a.tmps, params := ps, assign, body, defers := w.heap.size } := ⟨_, rfl⟩
  have hX1 : Ext w ((w.alloc (.deferred (some []))).alloc (.loop (rec .ready none))) := ((Ext.refl w).alloc _).alloc _
  have hRec : ((w.alloc (.deferred (some []))).alloc (.loop (rec .ready none))).heap[w.heap.size + 1]? = some (.loop (rec .ready none)) := by
    have := World.alloc_heap_new (w.alloc (.deferred (some []))) (.loop (rec .ready none))
    rwa [World.size_alloc] at this
  have hDef : ((w.alloc (.deferred (some []))).alloc (.loop (rec .ready none))).heap[w.heap.size]? = some (.deferred (some [])) :=
    (Below.heap_alloc _ _ _ (by simp)).trans (World.alloc_heap_new w _)
  have hI1 : I [] ((w.alloc (.deferred (some []))).alloc (.loop (rec .ready none))) := hI.alloc _ (hI.alloc _ h0)
  have hsz : ((w.alloc (.deferred (some []))).alloc (.loop (rec .ready none))).heap.size = w.heap.size + 2 := by simp
  refine ⟨w.heap.size + 1, [{ target := .collected w.heap.size, args := #[] }], (w.alloc (.deferred (some []))).alloc (.loop (rec .ready none)), { target := .fn (.func 48) #[.pointer (some ⟨Fb, 0, none⟩)], args := #[.func (.yield (w.heap.size + 1)) #[] #[]] },
    (w.alloc (.deferred (some []))).alloc (.loop (rec .ready none)), 48, #[.func (.yield (w.heap.size + 1)) #[] #[], .pointer (some ⟨Fb, 0, none⟩)], (w.alloc (.deferred (some []))).alloc (.loop (rec .ready none)), ?_, ?_, fun _ _ => trivial, ?_, fun _ => by decide, ?_⟩
  · rw [hrec]; exact run_enterLoop_outer _ _ _ _ _
  · simp only [resolve, hg]
    simp [go_sem]
  · simp [invoke, go_sem]
  generalize (w.alloc (.deferred (some []))).alloc (.loop (rec .ready none)) = W1 at hX1 hRec hDef hI1 hsz ⊢
  have keep : ∀ {X Y : World} {row : Option Nat} {k : Nat} {o : Obj}, k < W1.heap.size → X.heap[k]? = some o → X.grownBy Y row → (∀ r, row = some r → W1.heap.size ≤ r ∧ ∃ o : Obj, X.heap[r]? = some o ∧ o.isCells = false) → Y.heap[k]? = some o := fun hk ho hgr hr =>
    (hgr.block _ (Array.getElem?_eq_some_iff.1 ho).1 (fun e => by have := (hr _ e.symm).1; omega)).trans ho
  have low : ∀ {K : List S16 → World → Prop}, OwnFrom w.heap.size K → OwnFrom W1.heap.size K := fun h s X Z row hs hgr hr => h s X Z row hs hgr (fun r e => ⟨by have := (hr r e).1; omega, (hr r e).2⟩)
  refine (allAsk_in (w.heap.size + 1) Fb v A nn c L
    (fun pre W => I pre W ∧ W.heap[w.heap.size + 1]? = some (.loop (rec .ready none)) ∧ W.heap[w.heap.size]? = some (.deferred (some [])))
    (fun pre W => Ix pre W ∧ W.heap[w.heap.size + 1]? = some (.loop (rec .done (some .ret))) ∧ W.heap[w.heap.size]? = some (.deferred (some [])))
    W1 hsm (hF.ext hX1) (hR.ext hX1) ?_ ?_ ?_ ⟨hI1, hRec, hDef⟩).mono ?_
  · exact fun s X Z row hs hgr hr => ⟨low hI s X Z row hs.1 hgr hr, keep (by omega) hs.2.1 hgr hr, keep (by omega) hs.2.2 hgr hr⟩
  · exact fun s X Z row hs hgr hr => ⟨low hIx s X Z row hs.1 hgr hr, keep (by omega) hs.2.1 hgr hr, keep (by omega) hs.2.2 hgr hr⟩
  · -- one round
    rintro pre x B k cc W ⟨hi, hl, hk⟩ hWs hrow
    obtain ⟨a₁, hassign, hbody⟩ := hround (w.heap.size + 1) pre x B k cc W hi (by omega) hrow
    have hy := run_yield (P := Try.prog) (args := #[.slice B k cc]) hl (by rw [hrec]; exact hps.symm)
    rw [hrec] at hy
    refine ⟨fn, _, assign, body, hy, roundIn_of_wpIn hfn (hassign _ ⟨_, run_beginRound hl (by rw [hrec]), ?_⟩)⟩
    obtain ⟨W2, hW2⟩ : ∃ W2, W.putObj (w.heap.size + 1) (.loop { rec .ready none with state := .busy }) = W2 := ⟨_, rfl⟩
    have hg2 : W.grownBy W2 (some (w.heap.size + 1)) := by rw [← hW2]; exact grownBy_putObj' W _ _
    have hlt : w.heap.size + 1 < W.heap.size := (Array.getElem?_eq_some_iff.1 hl).1
    have hl2 : W2.heap[w.heap.size + 1]? = some (.loop { rec .ready none with state := .busy }) := by rw [← hW2]; exact World.putObj_heap_same hlt
    have hk2 : W2.heap[w.heap.size]? = some (.deferred (some [])) := by rw [← hW2]; exact (World.putObj_heap_other (by omega)).trans hk
    have hi2 : I pre W2 := by rw [← hW2]; exact hI.putObj _ hi (by omega) hl rfl
    have hkt2 : KT TK W W2 := by rw [← hW2]; exact KT.putObj TK w W _ _ _ (by omega) hl rfl rfl
    have hkf2 : KeepsFrom W1.heap.size W W2 := KeepsFrom.of_grownBy hg2 (fun j e => by cases e; omega)
    have hrow2 : RowB W2 B k (bitsV x.1 v.toNat) := hrow.kt hkt2 rfl
    rw [hW2]
    clear hW2
    refine wpIn_mono (hbody W2 hi2 (by have := hg2.size; omega) hrow2) ?_
    rintro e a3 W3 hp
    -- the round's end: the record is turned again
    have fin : ∀ (jump : Option Code), KeepsFrom w.heap.size W2 W3 → ∃ W4, (Instr.endRound (w.heap.size + 1) jump).run Try.prog W3 = .ok (.bool jump.isNone) W4 ∧ W3.heap[w.heap.size + 1]? = some (.loop { rec .ready none with state := .busy }) ∧
        W4 = W3.putObj (w.heap.size + 1) (.loop (rec (if jump.isNone then .ready else .done) jump)) ∧ W4.heap[w.heap.size + 1]? = some (.loop (rec (if jump.isNone then .ready else .done) jump)) ∧ W4.heap[w.heap.size]? = some (.deferred (some [])) ∧ KeepsFrom W1.heap.size W W4 := fun jump hk3 => by
      have hl3 := hk3.same _ _ (by omega) hl2 rfl
      have hr := run_endRound (P := Try.prog) jump hl3
      refine ⟨_, ?_, hl3, rfl, World.putObj_heap_same (Array.getElem?_eq_some_iff.1 hl3).1, (World.putObj_heap_other (by omega)).trans (hk3.same _ _ (Nat.le_refl _) hk2 rfl), ?_⟩
      · rw [hrec] at hr ⊢; exact hr
      · have h3 : KeepsFrom W1.heap.size W2 W3 := ⟨hk3.size, fun j o hj h1 h2 => hk3.same j o (by omega) h1 h2⟩
        exact (hkf2.trans h3).trans (KeepsFrom.of_grownBy (grownBy_putObj' W3 _ _) (fun j e => by cases e; omega))
    cases e with
    | normal =>
      obtain ⟨hk3, hkt3, hi3⟩ := hp
      obtain ⟨W4, hr, hl3, rfl, hl4, hk4, hkf4⟩ := fin none hk3
      exact ⟨_, _, hr, true, rfl, hkf4, fun _ => ⟨⟨hI.putObj _ hi3 (by omega) hl3 rfl, hl4, hk4⟩, (hkt2.trans hkt3).trans (KT.putObj TK w _ _ _ _ (by omega) hl3 rfl rfl)⟩, fun h => by cases h⟩
    | ret =>
      obtain ⟨hk3, hi3⟩ := hp
      obtain ⟨W4, hr, hl3, rfl, hl4, hk4, hkf4⟩ := fin (some .ret) hk3
      exact ⟨_, _, hr, false, rfl, hkf4, (fun h => by cases h), fun _ => ⟨hIx.putObj _ hi3 (by omega) hl3 rfl, hl4, hk4⟩⟩
    | exit id => exact hp.elim
    | goto t => exact hp.elim
    | panic ch => exact hp.elim
    | outgrown => exact hp.elim
  · -- behind the iterator
    rintro e W2 ⟨⟨u, rfl⟩, (⟨ys, hS, hi, hl, hk⟩ | ⟨pre, hSp, hi, hl, hk⟩)⟩
    · have hr := run_endLoop (P := Try.prog) hl (by rw [hrec]; simp)
      rw [hrec] at hr
      exact ⟨none, _, hr, hdone _ ys _ (Nat.le_refl _) hS (hI.putObj _ hi (by omega) hl rfl) ((World.putObj_heap_other (by omega)).trans hk)⟩
    · have hr := run_endLoop (P := Try.prog) hl (by rw [hrec]; simp)
      rw [hrec] at hr
      exact ⟨some .ret, _, hr, hstop _ pre _ (Nat.le_refl _) hSp (hIx.putObj _ hi (by omega) hl rfl) ((World.putObj_heap_other (by omega)).trans hk)⟩
end Go.Proofs.Ytdiapihfjmbgoaa
