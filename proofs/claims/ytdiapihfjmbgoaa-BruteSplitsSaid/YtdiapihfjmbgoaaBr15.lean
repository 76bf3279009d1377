/- Layer 22 (brute): Follows. -/
import Derived.Test.YtdiapihfjmbgoaaBr14
set_option maxRecDepth 100000
namespace Go.Proofs.Ytdiapihfjmbgoaa
open Go.RowKit Go.Shelf
attribute [local go_sem] Oper.semAt_some

/-- Follows' answer. -/
def bFollowsV (v : Int) (L : List (List Int)) (c : List Int) : Bool × Int :=
  if bCheckV v L ≠ 0 then (false, bCheckV v L) else if cCheckV c v ≠ 0 then (false, cCheckV c v) else ((setsV v L).all fun m => holdsV c (bitsV m v.toNat), 0)
def RetFol (v : Int) (L : List (List Int)) (c : List Int) (w : World) (e : Ending) (w' : World) : Prop := e = .returned (.tuple #[.bool (bFollowsV v L c).1, .int .i64 (bFollowsV v L c).2]) ∧ Ext w w'

theorem fol_res (fn : Func) (hfn : fn.results = #[.cell 4 4, .cell 5 29]) (g : Nat) (W : World) (b : Bool) (e : Int) (h2 : Blk W (g + 1) 4 #[.bool b]) (h3 : Blk W (g + 1 + 1) 29 #[.int .i64 e]) (T : Array Value) (h4 : T[4]? = some (.pointer (some ⟨g + 1, 0, none⟩))) (h5 : T[5]? = some (.pointer (some ⟨g + 1 + 1, 0, none⟩))) :
    (results fn T).run Try.prog W = .ok (.tuple #[.bool b, .int .i64 e]) W := by
  have c2 := h2.cell 0
  have c3 := h3.cell 0
  simp [results, hfn, go_sem, c2, c3, h4, h5]

theorem rows_one {w : World} {g : Nat} {A : Option Addr} {n c : Nat} {cl : List Int} (h : Blk w g 40 #[.slice A n c]) (hc : IntSl w A n cl) : RowsSl w (some ⟨g, 0, none⟩) 1 [cl] := by
  refine ⟨rfl, by decide, fun _ => ⟨_, rfl, fun j xs hj => ?_⟩⟩
  have e : (⟨g, 0, none⟩ : Addr).add j = ⟨g, j, none⟩ := by unfold Addr.add; split <;> simp_all
  rw [e, h.cell]
  match j, hj with
  | 0, hj => cases hj; exact ⟨A, n, c, rfl, hc⟩
theorem first_one (cl : List Int) (m : List Bool) : decide (firstV [cl] m < 0) = holdsV cl m := by
  cases h : holdsV cl m with
  | true => rw [decide_eq_true_eq, firstV_neg]; intro d hd; simp at hd; subst hd; exact h
  | false =>
    rw [decide_eq_false_iff_not, firstV_neg]
    intro hn
    rw [hn cl (by simp)] at h
    cases h

set_option maxRecDepth 100000 in
set_option maxHeartbeats 4000000 in
theorem bfollows_c (v : Int) (A : Option Addr) (nn c : Nat) (L : List (List Int)) (A' : Option Addr) (n' c' : Nat) (cl : List Int) (w : World) (hR : RowsSl w A nn L) (hsm : nn ≤ 1000000) (h' : IntSl w A' n' cl) :
    Calls Try.prog 16 #[.agg #[.int .i64 v, .slice A nn c], .slice A' n' c'] w (RetFol v L cl w) := by
  have HX0 := Lib.hid ((((Ext.refl w).alloc (Obj.cells #[.int .i64 v, .slice A nn c] 24)).alloc (Obj.cells #[.bool false] 4)).alloc (Obj.cells #[.int .i64 0] 29))
  have HB0 := ((Blk.new w 24 #[.int .i64 v, .slice A nn c]).alloc (Obj.cells #[.bool false] 4)).alloc (Obj.cells #[.int .i64 0] 29)
  have HB1 := (Blk.new (w.alloc (Obj.cells #[.int .i64 v, .slice A nn c] 24)) 4 #[.bool false]).alloc (Obj.cells #[.int .i64 0] 29)
  have HB2 := Blk.new ((w.alloc (Obj.cells #[.int .i64 v, .slice A nn c] 24)).alloc (Obj.cells #[.bool false] 4)) 29 #[.int .i64 0]
  rw [World.size_alloc] at HB1
  rw [World.size_alloc, World.size_alloc] at HB2
  refine (callsIn_wide (n := 5)).1 ?_
  refine callsIn_of_wp_marks Try.func16 rfl trivial ?_ rfl
  simp only [Try.ntmps16, List.size_toArray, List.length_cons, List.length_nil, Nat.reduceAdd, Nat.reduceSub, Array.replicate_succ, Array.replicate_zero, List.push_toArray, List.append_toArray, List.nil_append, List.cons_append]
  by_cases hb : bCheckV v L = 0
  · have HBC := Lib.hid hb
    by_cases hcc : cCheckV cl v = 0
    · have HCC := Lib.hid hcc
      clear hb hcc
      gi_wp2_with (first
        | (refine ⟨trivial, ?_⟩; gi_at_call 27; refine ((callsIn_wide (n := 4)).2 (bcheck_c v A nn c L _ (hR.ext HX0.out))).mono ?_; rintro e w1 ⟨rfl, hx1⟩; rw [HBC.out]; have b0 : w1.cell? ⟨w.heap.size, 0, none⟩ = some (.int .i64 v) := (HB0.ext hx1).cell 0; have b1 : w1.cell? ⟨w.heap.size, 1, none⟩ = some (.slice A nn c) := (HB0.ext hx1).cell 1; have HX1 := Lib.hid hx1; clear hx1)
        | (refine ⟨trivial, ?_⟩; gi_at_call 32; refine ((callsIn_wide (n := 4)).2 (clauseCheck_c A' n' c' cl v _ (h'.ext (HX0.out.trans HX1.out)))).mono ?_; rintro e w2 ⟨rfl, hx2⟩; rw [HCC.out]; have HX2 := Lib.hid (HX1.out.trans hx2); have d0 := hx2.cell b0; have hx5 : Ext w2 ((w2.alloc (Obj.cells #[.slice A' n' c'] 40)).alloc (Obj.cells #[.int .i64 v, .slice (some ⟨w2.heap.size, 0, none⟩) 1 1] 24)) := ((Ext.refl w2).alloc _).alloc _; have e0 := hx5.cell (hx2.cell b0); have e1 := hx5.cell (hx2.cell b1); clear hx2 hx5)
        | (refine ⟨trivial, ?_⟩; gi_at_call 30; refine ((callsIn_wide (n := 4)).2 (all0_c v A nn c _)).mono ?_; rintro e w4 ⟨g, rfl, hg, hx4⟩))
      have hX5 : Ext w2 ((w2.alloc (Obj.cells #[.slice A' n' c'] 40)).alloc (Obj.cells #[.int .i64 v, .slice (some ⟨w2.heap.size, 0, none⟩) 1 1] 24)) := ((Ext.refl w2).alloc _).alloc _
      have hOne := Blk.new (w2.alloc (Obj.cells #[.slice A' n' c'] 40)) 24 #[.int .i64 v, .slice (some ⟨w2.heap.size, 0, none⟩) 1 1]
      have hRow := (Blk.new w2 40 #[.slice A' n' c']).alloc (Obj.cells #[.int .i64 v, .slice (some ⟨w2.heap.size, 0, none⟩) 1 1] 24)
      rw [World.size_alloc] at hOne
      clear d0 e0 e1
      generalize ((w2.alloc (Obj.cells #[.slice A' n' c'] 40)).alloc (Obj.cells #[.int .i64 v, .slice (some ⟨w2.heap.size, 0, none⟩) 1 1] 24)) = w5 at hX5 hOne hRow hx4
      have hX4 : Ext _ w4 := HX2.out.trans (hX5.trans hx4)
      have hB0 := HB0.ext hX4
      have hB1 := HB1.ext hX4
      have hB2 := HB2.ext hX4
      have hB3 := hOne.ext hx4
      have hB4 := hRow.ext hx4
      have hXw : Ext w w4 := HX0.out.trans hX4
      have hs4 : w.heap.size + 1 + 1 < w2.heap.size := Nat.lt_of_lt_of_le HB2.lt HX2.out.size
      have hs24 : w2.heap.size + 1 < w4.heap.size := hB3.lt
      have hg4 := hg.lt
      clear hX4 HB0 HB1 HB2 hOne hRow hx4 hX5 b0 b1
      refine wpIn_rangeAll (Fb := g) (v := v) (A := A) (nn := nn) (c := c) (L := L) rfl rfl hsm hg (hR.ext hXw)
        (fun pre W => ((((Blk W (w.heap.size + 1) 4 #[.bool false] ∧ Blk W (w.heap.size + 1 + 1) 29 #[.int .i64 0]) ∧ Blk W (w2.heap.size + 1) 24 #[.int .i64 v, .slice (some ⟨w2.heap.size, 0, none⟩) 1 1]) ∧ Blk W w2.heap.size 40 #[.slice A' n' c']) ∧ Below w.heap.size w W) ∧ ∀ x ∈ pre, holdsV cl (bitsV x.1 v.toNat) = true)
        (fun pre W => ((Blk W (w.heap.size + 1) 4 #[.bool false] ∧ Blk W (w.heap.size + 1 + 1) 29 #[.int .i64 0]) ∧ Below w.heap.size w W) ∧ ∃ x ∈ pre, holdsV cl (bitsV x.1 v.toNat) = false)
        ?hI ?hIx ?h0 ?round ?done ?stop
      case hI => exact OwnFrom.and (OwnFrom.and (OwnFrom.and (OwnFrom.and (OwnFrom.and (Own.from (blk_own _ _ (fun _ => #[.bool false])) _) (Own.from (blk_own _ _ (fun _ => #[.int .i64 0])) _)) (Own.from (blk_own _ _ (fun _ => #[.int .i64 v, .slice (some ⟨w2.heap.size, 0, none⟩) 1 1])) _)) (Own.from (blk_own _ _ (fun _ => #[.slice A' n' c'])) _)) (ownFrom_below (Nat.le_refl _) hXw.size)) (ownFrom_pure _ (fun (pre : List S16) => ∀ x ∈ pre, holdsV cl (bitsV x.1 v.toNat) = true))
      case hIx => exact OwnFrom.and (OwnFrom.and (OwnFrom.and (Own.from (blk_own _ _ (fun _ => #[.bool false])) _) (Own.from (blk_own _ _ (fun _ => #[.int .i64 0])) _)) (ownFrom_below (Nat.le_refl _) hXw.size)) (ownFrom_pure _ (fun (pre : List S16) => ∃ x ∈ pre, holdsV cl (bitsV x.1 v.toNat) = false))
      case h0 => exact ⟨⟨⟨⟨⟨hB1, hB2⟩, hB3⟩, hB4⟩, hXw⟩, fun x hx => by cases hx⟩
      case round =>
        rintro l pre x B k cc W hI hW hrow
        refine ⟨{ tmps := #[.agg #[.int .i64 v, .slice A nn c], .slice A' n' c', .pointer (some ⟨w.heap.size, 0, none⟩), undef, .pointer (some ⟨w.heap.size + 1, 0, none⟩), .pointer (some ⟨w.heap.size + 1 + 1, 0, none⟩), .int .i64 0, .int .i64 0, .pointer (some ⟨w2.heap.size + 1, 0, none⟩), .slice B k cc, .agg #[.int .i64 v, .slice A nn c], .int .i64 0, .int .i64 0, .bool false, undef, .slice A' n' c', .pointer (some ⟨w.heap.size, 0, none⟩), .int .i64 v, .int .i64 0, .int .i64 0, .bool false, undef, .pointer (some ⟨w.heap.size, 0, none⟩), .int .i64 v, .slice A' n' c', .slice (some ⟨w2.heap.size, 0, none⟩) 1 1, .agg #[.int .i64 v, .slice (some ⟨w2.heap.size, 0, none⟩) 1 1], .agg #[.int .i64 v, .slice A nn c], .func (.func 48) #[] #[.pointer (some ⟨g, 0, none⟩)], .slice B k cc, undef, undef, undef, undef], defers := [] }, fun K hK => ?_, ?_⟩
        · gi_wp2
          exact hK
        · rintro W2 ⟨⟨⟨⟨⟨h1, h2⟩, h3⟩, h4⟩, hB⟩, hall⟩ hW2 hrow2
          have HOF : Hid (holdsF v [cl] (bitsV x.1 v.toNat) = holdsV cl (bitsV x.1 v.toNat)) := by
            unfold Hid holdsF
            rw [bitsV_len, first_one, decide_eq_true (by have := (bCheck_ok HBC.out).1; omega), Bool.true_and]
          have o0 := h3.cell 0
          have o1 := h3.cell 1
          have HS := Lib.hid (rows_one h4 (h'.ext (show Ext w W2 from hB)))
          have HL := Lib.hid hall
          have hd1 : 1 ≤ 1 := by decide
          clear hall hI
          cases hh : holdsV cl (bitsV x.1 v.toNat) with
          | true =>
            have HH := Lib.hid hh
            clear hh
            gi_wp2_with (refine ⟨trivial, ?_⟩; gi_at_call 33; refine (CallsIn.inRound l ((callsIn_wide (n := 0)).2 (cHolds_c v _ _ _ [cl] B k cc _ W2 HS.out hrow2.sl))).mono ?_; rintro e w6 ⟨rfl, hx6⟩; rw [HOF.out, HH.out])
            exact ⟨(KeepsOthers.ext hx6).from _, KT.ext hx6, ⟨⟨⟨⟨h1.ext hx6, h2.ext hx6⟩, h3.ext hx6⟩, h4.ext hx6⟩, hB.trans ((show Below W2.heap.size W2 w6 from hx6).mono hB.size)⟩, fun y hy => by
              rcases List.mem_append.1 hy with hy | hy
              · exact HL.out y hy
              · simp at hy; subst hy; exact HH.out⟩
          | false =>
            have HH := Lib.hid hh
            clear hh
            gi_wp2_with (refine ⟨trivial, ?_⟩; gi_at_call 33; refine (CallsIn.inRound l ((callsIn_wide (n := 0)).2 (cHolds_c v _ _ _ [cl] B k cc _ W2 HS.out hrow2.sl))).mono ?_; rintro e w6 ⟨rfl, hx6⟩; rw [HOF.out, HH.out]; have q1 := (h1.ext hx6).cell 0; have q2 := (h2.ext hx6).cell 0; have f1 := (h1.ext hx6).frozen 0; have f2 := (h2.ext hx6).frozen 0)
            have k1 := ((h1.ext hx6).set_ 0 (.bool false)).far (p := ⟨w.heap.size + 1 + 1, 0, none⟩) (by simp) (.int .i64 0)
            have k2 := ((h2.ext hx6).far (p := ⟨w.heap.size + 1, 0, none⟩) (by simp) (.bool false)).set_ 0 (.int .i64 0)
            exact ⟨((KeepsOthers.ext hx6).trans ((KeepsOthers.setCell _ _ _).trans (KeepsOthers.setCell _ _ _))).from _, ⟨⟨k1, k2⟩, ((hB.trans ((show Below W2.heap.size W2 w6 from hx6).mono hB.size)).setCell (by simp) _).setCell (by simp; omega) _⟩, x, by simp, HH.out⟩
      case done =>
        rintro D ys W hD hS ⟨⟨⟨⟨⟨h1, h2⟩, h3⟩, h4⟩, hB⟩, hall⟩ hK
        have HV : Hid (bFollowsV v L cl = (true, 0)) := by
          unfold Hid bFollowsV
          rw [if_neg (by simp [HBC.out]), if_neg (by simp [HCC.out])]
          congr 1
          rw [← hS, List.all_eq_true]
          intro m hm
          obtain ⟨x, hx, rfl⟩ := List.mem_map.1 hm
          exact hall x hx
        clear hS hall
        have q1 := h1.cell 0
        have q2 := h2.cell 0
        have f1 := h1.frozen 0
        have f2 := h2.frozen 0
        have HD := Lib.hid hK
        clear hK
        gi_wp2
        have k1 := (h1.set_ 0 (.bool true)).far (p := ⟨w.heap.size + 1 + 1, 0, none⟩) (by simp) (.int .i64 0)
        have k2 := (h2.far (p := ⟨w.heap.size + 1, 0, none⟩) (by simp) (.bool true)).set_ 0 (.int .i64 0)
        have kB := ((show Ext w W from hB).setCell (p := ⟨w.heap.size + 1, 0, none⟩) (by simp) (.bool true)).setCell (p := ⟨w.heap.size + 1 + 1, 0, none⟩) (by simp; omega) (.int .i64 0)
        have kD := (Below.heap_setCell _ ⟨w.heap.size + 1 + 1, 0, none⟩ (.int .i64 0) D (by simp; omega)).trans ((Below.heap_setCell W ⟨w.heap.size + 1, 0, none⟩ (.bool true) D (by simp; omega)).trans HD.out)
        generalize (W.setCell ⟨w.heap.size + 1, 0, none⟩ (.bool true)).setCell ⟨w.heap.size + 1 + 1, 0, none⟩ (.int .i64 0) = W3 at k1 k2 kB kD ⊢
        refine ⟨by simp, .inl ⟨_, _, rfl, run_takeDeferred kD, ?_⟩⟩
        have hg := grownBy_putObj' W3 D (.deferred none)
        have hrow : ∀ r, some D = some r → ∃ o : Obj, W3.heap[r]? = some o ∧ o.isCells = false := fun r e => by cases e; exact ⟨_, kD, rfl⟩
        have z1 := blk_own _ _ (fun (_ : Unit) => #[.bool true]) () _ _ _ k1 hg hrow
        have z2 := blk_own _ _ (fun (_ : Unit) => #[.int .i64 0]) () _ _ _ k2 hg hrow
        exact ⟨.tuple #[.bool true, .int .i64 0], fol_res _ Try.results16 _ _ _ _ z1 z2 _ rfl rfl, by rw [HV.out], kB.grown hg (fun k e => by cases e; omega)⟩
      case stop =>
        rintro D pre W hD hSp ⟨⟨⟨h1, h2⟩, hB⟩, hno⟩ hK
        have HV : Hid (bFollowsV v L cl = (false, 0)) := by
          unfold Hid bFollowsV
          rw [if_neg (by simp [HBC.out]), if_neg (by simp [HCC.out])]
          congr 1
          obtain ⟨k, hk, hp⟩ := hSp
          obtain ⟨x, hx, hf⟩ := hno
          rw [List.all_eq_false]
          refine ⟨x.1, ?_, by rw [hf]; decide⟩
          have : x.1 ∈ pre.map Subtype.val := List.mem_map.2 ⟨x, hx, rfl⟩
          rw [hp] at this
          exact List.mem_of_mem_take this
        clear hSp hno
        gi_wp2
        refine ⟨by simp, .inl ⟨_, _, rfl, run_takeDeferred hK, ?_⟩⟩
        have hg := grownBy_putObj' W D (.deferred none)
        have hrow : ∀ r, some D = some r → ∃ o : Obj, W.heap[r]? = some o ∧ o.isCells = false := fun r e => by cases e; exact ⟨_, hK, rfl⟩
        have z1 := blk_own _ _ (fun (_ : Unit) => #[.bool false]) () _ _ _ h1 hg hrow
        have z2 := blk_own _ _ (fun (_ : Unit) => #[.int .i64 0]) () _ _ _ h2 hg hrow
        exact ⟨.tuple #[.bool false, .int .i64 0], fol_res _ Try.results16 _ _ _ _ z1 z2 _ rfl rfl, by rw [HV.out], (show Ext w W from hB).grown hg (fun k e => by cases e; omega)⟩
    · have HV : Hid (bFollowsV v L cl = (false, cCheckV cl v)) := by unfold Hid bFollowsV; rw [if_neg (by simp [hb]), if_pos hcc]
      have hne : (cCheckV cl v != 0) = true := by simpa using hcc
      clear hb hcc
      gi_wp2_with (first
        | (refine ⟨trivial, ?_⟩; gi_at_call 27; refine ((callsIn_wide (n := 4)).2 (bcheck_c v A nn c L _ (hR.ext HX0.out))).mono ?_; rintro e w1 ⟨rfl, hx1⟩; rw [HBC.out]; have b0 : w1.cell? ⟨w.heap.size, 0, none⟩ = some (.int .i64 v) := (HB0.ext hx1).cell 0; have b1 : w1.cell? ⟨w.heap.size, 1, none⟩ = some (.slice A nn c) := (HB0.ext hx1).cell 1; have HX1 := Lib.hid hx1; clear hx1)
        | (refine ⟨trivial, ?_⟩; gi_at_call 32; refine ((callsIn_wide (n := 4)).2 (clauseCheck_c A' n' c' cl v _ (h'.ext (HX0.out.trans HX1.out)))).mono ?_; rintro e w2 ⟨rfl, hx2⟩; generalize cCheckV cl v = y at hne HV ⊢; have k1 := HB1.ext (HX1.out.trans hx2); have k2 := HB2.ext (HX1.out.trans hx2); have q1 := k1.cell 0; have q2 := k2.cell 0; have f1 := k1.frozen 0; have f2 := k2.frozen 0; have HX2 := Lib.hid (HX0.out.trans (HX1.out.trans hx2)); clear hx2))
      have k1 := (k1.set_ 0 (.bool false)).far (p := ⟨w.heap.size + 1 + 1, 0, none⟩) (by simp) (.int .i64 y)
      have k2 := (k2.far (p := ⟨w.heap.size + 1, 0, none⟩) (by simp) (.bool false)).set_ 0 (.int .i64 y)
      exact ⟨.tuple #[.bool false, .int .i64 y], fol_res _ Try.results16 _ _ _ _ k1 k2 _ rfl rfl, by rw [HV.out], (HX2.out.setCell (by simp) _).setCell (by simp; omega) _⟩
  · have HV : Hid (bFollowsV v L cl = (false, bCheckV v L)) := by unfold Hid bFollowsV; rw [if_pos hb]
    have hne : (bCheckV v L != 0) = true := by simpa using hb
    clear hb
    gi_wp2_with (refine ⟨trivial, ?_⟩; gi_at_call 27; refine ((callsIn_wide (n := 4)).2 (bcheck_c v A nn c L _ (hR.ext HX0.out))).mono ?_; rintro e w1 ⟨rfl, hx1⟩; generalize bCheckV v L = y at hne HV ⊢; have k1 := HB1.ext hx1; have k2 := HB2.ext hx1; have q1 := k1.cell 0; have q2 := k2.cell 0; have f1 := k1.frozen 0; have f2 := k2.frozen 0; have HX2 := Lib.hid (HX0.out.trans hx1); clear hx1)
    have k1 := (k1.set_ 0 (.bool false)).far (p := ⟨w.heap.size + 1 + 1, 0, none⟩) (by simp) (.int .i64 y)
    have k2 := (k2.far (p := ⟨w.heap.size + 1, 0, none⟩) (by simp) (.bool false)).set_ 0 (.int .i64 y)
    exact ⟨.tuple #[.bool false, .int .i64 y], fol_res _ Try.results16 _ _ _ _ k1 k2 _ rfl rfl, by rw [HV.out], (HX2.out.setCell (by simp) _).setCell (by simp; omega) _⟩
end Go.Proofs.Ytdiapihfjmbgoaa
