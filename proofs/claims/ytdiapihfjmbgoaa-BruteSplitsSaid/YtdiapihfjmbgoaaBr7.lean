/- Layer 22 (brute): Nth. -/
import Derived.Test.YtdiapihfjmbgoaaBr6
set_option maxRecDepth 100000
namespace Go.Proofs.Ytdiapihfjmbgoaa
open Go.RowKit Go.Shelf
attribute [local go_sem] Oper.semAt_some

theorem boolSl_own {β : Type} (A : β → Option Addr) (n : β → Nat) (xs : β → List Bool) : Own (fun s W => BoolSl W (A s) (n s) (xs s)) := fun _ _ _ _ hs hg hrow =>
  ⟨hs.1, hs.2.1, fun hn => let ⟨ad, e, hc⟩ := hs.2.2 hn; ⟨ad, e, fun j x hj => cell_kept (hc j x hj) hg hrow⟩⟩
/-- The n-th set. -/
def nthV (v : Int) (L : List (List Int)) (n : Int) : Option Nat := if 0 ≤ n then (setsV v L)[n.toNat]? else none
def RetNth (v : Int) (L : List (List Int)) (n : Int) (w : World) (e : Ending) (w' : World) : Prop :=
  ∃ A k c ok ms, e = .returned (.tuple #[.slice A k c, .bool ok]) ∧ BoolSl w' A k ms ∧ Ext w w' ∧ (match nthV v L n with | some m => ok = true ∧ ms = bitsV m v.toNat | none => ok = false ∧ ms = [])
theorem sets_ok {v : Int} {L : List (List Int)} {k : Nat} (h : k < (setsV v L).length) : 0 ≤ v ∧ v ≤ 16 := by
  unfold setsV at h
  by_cases hc : bCheckV v L = 0
  · exact ⟨(bCheck_ok hc).1, (bCheck_ok hc).2.1⟩
  · rw [if_neg hc] at h; simp at h

/-- Truths in a block of their own. -/
def BoolF (w : World) (A : Option Addr) (n : Nat) (xs : List Bool) (b : Nat) : Prop := ∃ g t cs, A = some ⟨g, 0, none⟩ ∧ b ≤ g ∧ Blk w g t cs ∧ xs.length = n ∧ n ≤ 9223372036854775807 ∧ ∀ (j : Nat) (x : Bool), xs[j]? = some x → cs[j]? = some (Value.bool x)
theorem BoolF.sl {w : World} {A : Option Addr} {n : Nat} {xs : List Bool} {b : Nat} (h : BoolF w A n xs b) : BoolSl w A n xs := by
  obtain ⟨g, t, cs, rfl, _, hb, h1, h2, h3⟩ := h
  exact hb.bools h1 h2 h3
theorem BoolF.far {w : World} {A : Option Addr} {n : Nat} {xs : List Bool} {b : Nat} (h : BoolF w A n xs b) {p : Addr} (hp : p.block < b) (u : Value) : BoolF (w.setCell p u) A n xs b := by
  obtain ⟨g, t, cs, rfl, hg, hb, h1, h2, h3⟩ := h
  exact ⟨g, t, cs, rfl, hg, hb.far (by omega) u, h1, h2, h3⟩
theorem BoolF.ext {w w' : World} {A : Option Addr} {n : Nat} {xs : List Bool} {b : Nat} (h : BoolF w A n xs b) (hx : Ext w w') : BoolF w' A n xs b := by
  obtain ⟨g, t, cs, rfl, hg, hb, h1, h2, h3⟩ := h
  exact ⟨g, t, cs, rfl, hg, hb.ext hx, h1, h2, h3⟩
set_option maxHeartbeats 2000000 in
theorem btruthsF_c (m n : Nat) (w : World) (hn : n ≤ 16) (hm : m < 2 ^ 16) :
    Calls Try.prog 29 #[.int .u32 m, .int .i64 n] w fun e w' => ∃ A k c, e = .returned (.slice A k c) ∧ BoolF w' A k (bitsV m n) w.heap.size ∧ Ext w w' := by
  obtain ⟨i0, hi, hz0, hz1, hz2⟩ := info_parts infoBool
  have hmk := fun W => run_make_rowN (P := Try.prog) 33 4 i0 _ Try.underlying33 hi hz0 .i64 .i64 n n (Nat.le_refl _) (by rw [hz2]; omega) (by omega) W
  rw [hz1, Nat.mul_one, show (Value.bool false).cells = #[Value.bool false] from rfl] at hmk
  clear hi hz0 hz1 hz2
  go_enter Try.func29, Try.ntmps29
  go_wp2
  go_loopw [6, 11] (fun _ i wr => ∃ k : Nat, k ≤ n ∧ i = .int .i64 k ∧ Blk wr w.heap.size 4 (fillG (fun j => .bool (m.testBit j)) (.bool false) n k) ∧ Ext w wr) (fun _ i _ => n - (intOf i).toNat)
  case atStart =>
    refine ⟨0, Nat.zero_le _, rfl, ?_, (Ext.refl _).alloc _⟩
    rw [fillG_zero]
    exact Blk.new w 4 (madeCells #[Value.bool false] n)
  case round =>
    obtain ⟨k, hk, rfl, hb, hx⟩ := hrel
    have HB := Lib.hid hb
    have HX := Lib.hid hx
    clear hb hx
    by_cases hlt : k < n
    · have hcell := (HB.out.cell k).trans (fillG_at _ _ n k k hlt)
      have hfr := HB.out.frozen k
      simp only [Nat.lt_irrefl, if_false] at hcell
      go_wp2
      go_roundw
      case rel =>
        refine ⟨k + 1, by omega, by go_num, ?_, HX.out.setCell (Nat.le_refl _) _⟩
        rw [u32_bit m k hm]
        have := HB.out.set_ k (.bool (m.testBit k))
        rw [fillG_set (fun j => .bool (m.testBit j)) _ n k hlt] at this
        exact this
      case measure => simp [intOf]; omega
    · obtain rfl : k = n := by omega
      go_wp2
      go_ret
      exact ⟨_, _, _, rfl, ⟨_, _, _, rfl, Nat.le_refl _, HB.out, bitsV_len m k, by omega, fun j x hj => by
        have hjk : j < k := by have := (List.getElem?_eq_some_iff.1 hj).1; rwa [bitsV_len] at this
        rw [fillG_at _ _ k k j hjk, if_pos hjk]
        rw [bitsV_get m hjk] at hj
        cases hj; rfl⟩, HX.out⟩
theorem KeepsOthers.ext {w w' : World} (h : Ext w w') : KeepsOthers w w' := .of_grownBy (ext_grown h) (fun _ _ e => by cases e)

/-- The end of both ways out. -/
theorem nth_end (fn : Func) (hfn : fn.results = #[.cell 4 33, .cell 5 4]) (v : Int) (L : List (List Int)) (n : Int) (w W : World) (D : Nat) (B : Option Addr) (k cc : Nat) (ok : Bool) (ms : List Bool) (hD : w.heap.size + 6 ≤ D) (h2 : Blk W (w.heap.size + 1 + 1) 33 #[.slice B k cc]) (h3 : Blk W (w.heap.size + 1 + 1 + 1) 4 #[.bool ok]) (hx : Ext w W) (hK : W.heap[D]? = some (.deferred (some [])))
    (hbs : BoolSl W B k ms) (hr : match nthV v L n with | some m => ok = true ∧ ms = bitsV m v.toNat | none => ok = false ∧ ms = []) (t6 t7 t8 t9 t10 t11 t12 t13 t14 t15 t16 t17 t18 t19 x0 x1 x2 x3 : Value) :
    bodyPostM Fence.wide 4 Try.prog fn (RetNth v L n w) Exit.ret { tmps := #[x0, x1, x2, x3, .pointer (some ⟨w.heap.size + 1 + 1, 0, none⟩), .pointer (some ⟨w.heap.size + 1 + 1 + 1, 0, none⟩), t6, t7, t8, t9, t10, t11, t12, t13, t14, t15, t16, t17, t18, t19], defers := [{ target := .collected D, args := #[] }] } W := by
  refine ⟨by simp, .inl ⟨_, _, rfl, run_takeDeferred hK, ?_⟩⟩
  have hg := grownBy_putObj' W D (.deferred none)
  have hrow : ∀ r, some D = some r → ∃ o : Obj, W.heap[r]? = some o ∧ o.isCells = false := fun r e => by cases e; exact ⟨_, hK, rfl⟩
  have c2 := (blk_own _ _ (fun (_ : Unit) => #[.slice B k cc]) () _ _ _ h2 hg hrow).cell 0
  have c3 := (blk_own _ _ (fun (_ : Unit) => #[.bool ok]) () _ _ _ h3 hg hrow).cell 0
  have hs := boolSl_own (fun (_ : Unit) => B) (fun _ => k) (fun _ => ms) () _ _ _ hbs hg hrow
  refine ⟨.tuple #[.slice B k cc, .bool ok], ?_, ⟨B, k, cc, ok, ms, rfl, hs, hx.grown hg (fun k e => by cases e; omega), hr⟩⟩
  simp [results, hfn, go_sem, c2, c3]

set_option maxRecDepth 100000 in
set_option maxHeartbeats 4000000 in
theorem nth_c (v : Int) (A : Option Addr) (nn c : Nat) (L : List (List Int)) (n : Int) (w : World) (hR : RowsSl w A nn L) (hsm : nn ≤ 1000000) :
    Calls Try.prog 12 #[.agg #[.int .i64 v, .slice A nn c], .int .i64 n] w (RetNth v L n w) := by
  refine (callsIn_wide (n := 4)).1 ?_
  refine callsIn_of_wp_marks Try.func12 rfl trivial ?_ rfl
  simp only [Try.ntmps12, List.size_toArray, List.length_cons, List.length_nil, Nat.reduceAdd, Nat.reduceSub, Array.replicate_succ, Array.replicate_zero, List.push_toArray, List.append_toArray, List.nil_append, List.cons_append]
  gi_wp2_with (refine ⟨trivial, ?_⟩; gi_at_call 26; refine ((callsIn_wide (n := 3)).2 (sets_c v A nn c _)).mono ?_; rintro e w' ⟨rfl, rfl⟩)
  have hX := (((((((Ext.refl w).alloc (Obj.cells #[.int .i64 v, .slice A nn c] 24)).alloc (Obj.cells #[.int .i64 n] 3)).alloc (Obj.cells #[.slice none 0 0] 33)).alloc (Obj.cells #[.bool false] 4)).alloc (Obj.cells #[.int .i64 0] 3)).alloc (Obj.cells #[.int .i64 v, .slice A nn c] 24))
  have hb0 := ((((((Blk.new w 24 #[.int .i64 v, .slice A nn c]).alloc (Obj.cells #[.int .i64 n] 3)).alloc (Obj.cells #[.slice none 0 0] 33)).alloc (Obj.cells #[.bool false] 4)).alloc (Obj.cells #[.int .i64 0] 3)).alloc (Obj.cells #[.int .i64 v, .slice A nn c] 24))
  have hb1 := (((((Blk.new (w.alloc (Obj.cells #[.int .i64 v, .slice A nn c] 24)) 3 #[.int .i64 n]).alloc (Obj.cells #[.slice none 0 0] 33)).alloc (Obj.cells #[.bool false] 4)).alloc (Obj.cells #[.int .i64 0] 3)).alloc (Obj.cells #[.int .i64 v, .slice A nn c] 24))
  rw [World.size_alloc] at hb1
  have hb2 := ((((Blk.new ((w.alloc (Obj.cells #[.int .i64 v, .slice A nn c] 24)).alloc (Obj.cells #[.int .i64 n] 3)) 33 #[.slice none 0 0]).alloc (Obj.cells #[.bool false] 4)).alloc (Obj.cells #[.int .i64 0] 3)).alloc (Obj.cells #[.int .i64 v, .slice A nn c] 24))
  rw [World.size_alloc, World.size_alloc] at hb2
  have hb3 := (((Blk.new (((w.alloc (Obj.cells #[.int .i64 v, .slice A nn c] 24)).alloc (Obj.cells #[.int .i64 n] 3)).alloc (Obj.cells #[.slice none 0 0] 33)) 4 #[.bool false]).alloc (Obj.cells #[.int .i64 0] 3)).alloc (Obj.cells #[.int .i64 v, .slice A nn c] 24))
  rw [World.size_alloc, World.size_alloc, World.size_alloc] at hb3
  have hb4 := ((Blk.new ((((w.alloc (Obj.cells #[.int .i64 v, .slice A nn c] 24)).alloc (Obj.cells #[.int .i64 n] 3)).alloc (Obj.cells #[.slice none 0 0] 33)).alloc (Obj.cells #[.bool false] 4)) 3 #[.int .i64 0]).alloc (Obj.cells #[.int .i64 v, .slice A nn c] 24))
  rw [World.size_alloc, World.size_alloc, World.size_alloc, World.size_alloc] at hb4
  have hb5 := (Blk.new (((((w.alloc (Obj.cells #[.int .i64 v, .slice A nn c] 24)).alloc (Obj.cells #[.int .i64 n] 3)).alloc (Obj.cells #[.slice none 0 0] 33)).alloc (Obj.cells #[.bool false] 4)).alloc (Obj.cells #[.int .i64 0] 3)) 24 #[.int .i64 v, .slice A nn c])
  rw [World.size_alloc, World.size_alloc, World.size_alloc, World.size_alloc, World.size_alloc] at hb5
  have hsz : ((((((w.alloc (Obj.cells #[.int .i64 v, .slice A nn c] 24)).alloc (Obj.cells #[.int .i64 n] 3)).alloc (Obj.cells #[.slice none 0 0] 33)).alloc (Obj.cells #[.bool false] 4)).alloc (Obj.cells #[.int .i64 0] 3)).alloc (Obj.cells #[.int .i64 v, .slice A nn c] 24)).heap.size = w.heap.size + 6 := by simp
  generalize ((((((w.alloc (Obj.cells #[.int .i64 v, .slice A nn c] 24)).alloc (Obj.cells #[.int .i64 n] 3)).alloc (Obj.cells #[.slice none 0 0] 33)).alloc (Obj.cells #[.bool false] 4)).alloc (Obj.cells #[.int .i64 0] 3)).alloc (Obj.cells #[.int .i64 v, .slice A nn c] 24)) = w3 at hX hb0 hb1 hb2 hb3 hb4 hb5 hsz ⊢
  refine wpIn_rangeFunc_ownG (F := Fence.wide) rfl (by decide) (gf := 42) (lb := #[.pointer (some ⟨w.heap.size + 1 + 1 + 1 + 1 + 1, 0, none⟩)]) rfl trivial (enters_of Try.func42 (by kernel_rfl) rfl)
    (sets_stops 3 (by decide) (w.heap.size + 1 + 1 + 1 + 1 + 1) v A nn c L w3 hsm hb5 (hR.ext hX)) KT.trans (KT.putObj _ w3) (Below.refl _ _) (fun _ => rfl)
    (fun pre W => ((((Blk W (w.heap.size + 1 + 1 + 1 + 1) 3 #[.int .i64 (pre.length : Nat)] ∧ Blk W (w.heap.size) 24 #[.int .i64 v, .slice A nn c]) ∧ Blk W (w.heap.size + 1) 3 #[.int .i64 n]) ∧ Blk W (w.heap.size + 1 + 1) 33 #[.slice none 0 0]) ∧ Blk W (w.heap.size + 1 + 1 + 1) 4 #[.bool false]) ∧ Below w.heap.size w W ∧ ¬ (0 ≤ n ∧ n < pre.length))
    (fun c pre W => c = .ret ∧ ∃ (x : S16) (B : Option Addr) (k cc : Nat), pre.getLast? = some x ∧ n = (pre.length : Int) - 1 ∧ (Blk W (w.heap.size + 1 + 1) 33 #[.slice B k cc] ∧ Blk W (w.heap.size + 1 + 1 + 1) 4 #[.bool true]) ∧ BoolSl W B k (bitsV x.1 v.toNat) ∧ Below w.heap.size w W)
    ?hI ?hIx ?h0
    (fun x => { tmps := #[.agg #[.int .i64 v, .slice A nn c], .int .i64 n, .pointer (some ⟨w.heap.size, 0, none⟩), .pointer (some ⟨w.heap.size + 1, 0, none⟩), .pointer (some ⟨w.heap.size + 1 + 1, 0, none⟩), .pointer (some ⟨w.heap.size + 1 + 1 + 1, 0, none⟩), .pointer (some ⟨w.heap.size + 1 + 1 + 1 + 1, 0, none⟩), .int .u32 x.1, .agg #[.int .i64 v, .slice A nn c], .func (.func 42) #[] #[.pointer (some ⟨w.heap.size + 1 + 1 + 1 + 1 + 1, 0, none⟩)], .int .u32 x.1, undef, undef, undef, undef, undef, undef, undef, undef, undef], defers := [] }) ?assign ?body ?done ?stop
  case hI =>
    exact OwnFrom.and (OwnFrom.and (OwnFrom.and (OwnFrom.and (OwnFrom.and (Own.from (blk_own _ _ _) _) (Own.from (blk_own _ _ (fun _ => #[.int .i64 v, .slice A nn c])) _)) (Own.from (blk_own _ _ (fun _ => #[.int .i64 n])) _)) (Own.from (blk_own _ _ (fun _ => #[.slice none 0 0])) _)) (Own.from (blk_own _ _ (fun _ => #[.bool false])) _)) (OwnFrom.and (ownFrom_below (Nat.le_refl _) (by omega)) (ownFrom_pure _ (fun (pre : List S16) => ¬ (0 ≤ n ∧ n < (pre.length : Int)))))
  case hIx =>
    intro _ s X Y row hs hg hr
    obtain ⟨hc, x, B, k, cc, h1, h2, ⟨h3, h4⟩, h5, h6⟩ := hs
    have hr' : ∀ r, row = some r → ∃ o : Obj, X.heap[r]? = some o ∧ o.isCells = false := fun r e => (hr r e).2
    refine ⟨hc, x, B, k, cc, h1, h2, ⟨blk_own _ _ (fun (_ : Unit) => #[.slice B k cc]) () X Y row h3 hg hr', blk_own _ _ (fun (_ : Unit) => #[.bool true]) () X Y row h4 hg hr'⟩, boolSl_own (fun (_ : Unit) => B) (fun _ => k) (fun _ => bitsV x.1 v.toNat) () X Y row h5 hg hr', ?_⟩
    exact ownFrom_below (Nat.le_refl _) (by omega : w.heap.size ≤ w3.heap.size) () X Y row h6 hg hr
  case h0 => exact ⟨⟨⟨⟨⟨hb4, hb0⟩, hb1⟩, hb2⟩, hb3⟩, hX, by simp⟩
  case assign =>
    intro l x W K hK
    gi_wp2
    exact hK
  case body =>
    rintro l pre x W ⟨⟨⟨⟨⟨h4, h0⟩, h1⟩, h2⟩, h3⟩, hB, hno⟩ hlen
    have hsl := setsV_len v L
    obtain ⟨hv0, hv16⟩ := sets_ok hlen
    obtain ⟨vn, rfl⟩ := Int.eq_ofNat_of_zero_le hv0
    have c4 := h4.cell 0
    have f4 := h4.frozen 0
    have c1 := h1.cell 0
    have c0 := h0.cell 0
    have hw1 : IntKind.i64.wrap ((pre.length : Int) + 1) = (pre.length : Int) + 1 := IntWalk.i64_in _ (by omega)
    by_cases he : n = (pre.length : Int)
    · have heb : (((pre.length : Int)) == n) = true := by simpa using he.symm
      have HE := Lib.hid he
      clear he
      have hd1 : 1 ≤ 4 - 1 - 1 := by decide
      gi_wp2_with (refine ⟨trivial, ?_⟩; gi_at_call 29; refine (CallsIn.inRound l ((callsIn_wide (n := 1)).2 (btruthsF_c x.1 vn W (by omega) x.2))).mono ?_; rintro e w5 ⟨B, k, cc, rfl, hbs, hx5⟩; have d2 := (h2.ext hx5).cell 0; have g2 := (h2.ext hx5).frozen 0; have d3 := (h3.ext hx5).cell 0; have g3 := (h3.ext hx5).frozen 0; have HX5 := Lib.hid hx5; have HBS := Lib.hid hbs; clear hbs hx5)
      have hlt : w.heap.size + 5 ≤ W.heap.size := by have := h4.lt; omega
      refine ⟨((KeepsOthers.ext HX5.out).trans ((KeepsOthers.setCell _ _ _).trans (KeepsOthers.setCell _ _ _))).from _, rfl, x, B, k, cc, by simp, by rw [List.length_append]; have := HE.out; simp; omega, ⟨((h2.ext HX5.out).set_ 0 _).far (by simp) _, ((h3.ext HX5.out).far (by simp) _).set_ 0 _⟩, ?_, ?_⟩
      · rw [Int.toNat_natCast]
        exact ((HBS.out.far (by simp; omega) _).far (by simp; omega) _).sl
      · exact ((hB.trans (HX5.out.mono (by omega))).setCell (by simp; omega) _).setCell (by simp; omega) _
    · have heb : (((pre.length : Int)) == n) = false := by simpa using fun h => he h.symm
      have HE := Lib.hid he
      clear he
      gi_wp2
      refine ⟨(KeepsOthers.setCell _ _ _).from _, KT.setCell h4 rfl 0 _, ⟨⟨⟨⟨?_, h0.far (by simp; omega) _⟩, h1.far (by simp) _⟩, h2.far (by simp) _⟩, h3.far (by simp) _⟩, hB.setCell (by simp; omega) _, ?_⟩
      · have := h4.set_ 0 (.int .i64 ((pre.length : Int) + 1))
        rw [List.length_append]
        exact this
      · rw [List.length_append]
        have := HE.out
        simp
        omega
  case done =>
    rintro D ys W hD hS ⟨⟨⟨⟨⟨h4, h0⟩, h1⟩, h2⟩, h3⟩, hB, hno⟩ hK
    have hlen : ys.length = (setsV v L).length := by rw [← hS, List.length_map]
    have HN : Hid (nthV v L n = none) := by
      unfold Hid nthV
      by_cases h0n : 0 ≤ n
      · rw [if_pos h0n]; exact List.getElem?_eq_none (by omega)
      · rw [if_neg h0n]
    clear hlen hno hS
    have c2 := h2.cell 0
    have g2 := h2.frozen 0
    have c3 := h3.cell 0
    have g3 := h3.frozen 0
    have HD := Lib.hid hK
    clear hK
    gi_wp2
    have k2 := (h2.set_ 0 (.slice none 0 0)).far (p := ⟨w.heap.size + 1 + 1 + 1, 0, none⟩) (by simp) (.bool false)
    have k3 := (h3.far (p := ⟨w.heap.size + 1 + 1, 0, none⟩) (by simp) (.slice none 0 0)).set_ 0 (.bool false)
    have kB := (show Ext w W from hB).setCell (p := ⟨w.heap.size + 1 + 1, 0, none⟩) (by simp; omega) (.slice none 0 0)
    have kB := kB.setCell (p := ⟨w.heap.size + 1 + 1 + 1, 0, none⟩) (by simp; omega) (.bool false)
    have kD := (Below.heap_setCell W ⟨w.heap.size + 1 + 1, 0, none⟩ (.slice none 0 0) D (by simp; omega)).trans HD.out
    have kD := (Below.heap_setCell _ ⟨w.heap.size + 1 + 1 + 1, 0, none⟩ (.bool false) D (by simp; omega)).trans kD
    generalize (W.setCell ⟨w.heap.size + 1 + 1, 0, none⟩ (.slice none 0 0)).setCell ⟨w.heap.size + 1 + 1 + 1, 0, none⟩ (.bool false) = W2 at k2 k3 kB kD ⊢
    exact nth_end _ Try.results12 v L n w W2 D none 0 0 false [] (by omega) k2 k3 kB kD (BoolSl.nil W2) (by rw [HN.out]; exact ⟨rfl, rfl⟩) ..
  case stop =>
    rintro D c pre W hD hSp ⟨rfl, x, B, k, cc, hl, hn, ⟨h2, h3⟩, hbs, hB⟩ hK
    have HN : Hid (nthV v L n = some x.1) := by
      obtain ⟨j, hj, hp⟩ := hSp
      have hlen : pre.length = j + 1 := by
        have : (pre.map Subtype.val).length = ((setsV v L).take (j + 1)).length := by rw [hp]
        rw [List.length_map, List.length_take] at this
        omega
      have hx : (pre.map Subtype.val)[j]? = some x.1 := by
        rw [List.getElem?_map]
        rw [List.getLast?_eq_getElem?, hlen] at hl
        rw [show j + 1 - 1 = j from rfl] at hl
        rw [hl]; rfl
      rw [hp, List.getElem?_take_of_lt (by omega)] at hx
      unfold Hid nthV
      rw [if_pos (by omega), show n.toNat = j by omega]
      exact hx
    clear hSp hl hn
    gi_wp2
    exact nth_end _ Try.results12 v L n w W D B k cc true _ (by omega) h2 h3 hB hK hbs (by rw [HN.out]; exact ⟨rfl, rfl⟩) ..
end Go.Proofs.Ytdiapihfjmbgoaa
