/- A slice of numbers that reads as a list; what keeps it. Plain lemmas on the model's memory. -/
import Derived.Test.YtdgflniahoidmaaGreatBase
import Derived.Below
import Derived.Laws.OwnMore
import Derived.Deep.Draws
import Derived.ProofKit
import Derived.OpenShut
import Derived.Deep.Slices
import Derived.Deep.Matrix
import Derived.ChangeSame
import Derived.Deep.Grids
set_option maxRecDepth 100000
namespace Go.Proofs.YtdgflniahoidmaaGreat
open Go.RowKit

/-- The slice value of base A, length n reads in w as the numbers xs, each an int64, no more than an int can count. -/
def IntSl (w : World) (A : Option Addr) (n : Nat) (xs : List Int) : Prop :=
  xs.length = n ∧ n ≤ 9223372036854775807 ∧ (∀ x ∈ xs, -9223372036854775808 ≤ x ∧ x ≤ 9223372036854775807) ∧
  (0 < n → ∃ ad, A = some ad ∧ ∀ j x, xs[j]? = some x → w.cell? (ad.add j) = some (.int .i64 x))

/-- Nothing that was there has turned. -/
def Ext (w w' : World) : Prop := Below w.heap.size w w'
theorem Ext.refl (w : World) : Ext w w := Below.refl _ _
theorem Ext.trans {a b c : World} (h : Ext a b) (k : Ext b c) : Ext a c := Below.trans h (Below.mono k h.size)
theorem Ext.trans' {a b c : World} (k : Ext b c) (h : Ext a b) : Ext a c := h.trans k
theorem Ext.drew {a w : World} (h : Ext a w) : Ext a w.drew := Below.drew h
theorem Ext.drewN {a w : World} (h : Ext a w) (n : Nat) : Ext a (w.drewN n) := ⟨h.os, h.tape, h.output, h.size, h.block⟩
theorem Ext.alloc {a w : World} (h : Ext a w) (o : Obj) : Ext a (w.alloc o) := Below.alloc h h.size o
theorem Ext.setCell {a w : World} (h : Ext a w) {p : Addr} (hp : a.heap.size ≤ p.block) (u : Value) : Ext a (w.setCell p u) := Below.setCell h hp u
theorem Ext.grown {a w w' : World} {row : Option Nat} (h : Ext a w) (hg : w.grownBy w' row) (hr : ∀ k, row = some k → a.heap.size ≤ k) : Ext a w' := Below.grown h hg h.size hr
theorem Ext.size_le {w w' : World} (h : Ext w w') : w.heap.size ≤ w'.heap.size := Below.size h
theorem Ext.cell {w w' : World} (h : Ext w w') {p : Addr} {v : Value} (hp : w.cell? p = some v) : w'.cell? p = some v :=
  (Below.cell h (World.block_lt_of_cell? w p hp)).trans hp
theorem Ext.frozen {w w' : World} (h : Ext w w') {p : Addr} {v : Value} (hp : w.cell? p = some v) : w'.frozen? p = w.frozen? p :=
  Below.frozen h (World.block_lt_of_cell? w p hp)

section
variable {w w' : World} {A : Option Addr} {n : Nat} {xs : List Int}
theorem IntSl.ext (h : IntSl w A n xs) (hx : Ext w w') : IntSl w' A n xs :=
  ⟨h.1, h.2.1, h.2.2.1, fun hn => let ⟨ad, e, hc⟩ := h.2.2.2 hn; ⟨ad, e, fun j x hj => hx.cell (hc j x hj)⟩⟩
theorem IntSl.nil (w : World) : IntSl w none 0 [] := ⟨rfl, by decide, by simp, fun h => absurd h (by omega)⟩
theorem IntSl.len (h : IntSl w A n xs) : n ≤ 9223372036854775807 := h.2.1
theorem IntSl.at_ (h : IntSl w A n xs) {k : Nat} (hk : k < n) :
    ∃ ad x, A = some ad ∧ Hid (xs[k]? = some x) ∧ w.cell? (ad.add k) = some (.int .i64 x) ∧ -9223372036854775808 ≤ x ∧ x ≤ 9223372036854775807 := by
  obtain ⟨ad, e, hc⟩ := h.2.2.2 (by omega)
  have hl : k < xs.length := by have := h.1; omega
  have hx : xs[k]? = some xs[k] := List.getElem?_eq_getElem hl
  exact ⟨ad, xs[k], e, Lib.hid hx, hc k _ hx, h.2.2.1 _ (List.getElem_mem hl)⟩
end

/-- Block g is just the cells cs of element type t, none of them frozen. -/
def Blk (w : World) (g : Nat) (t : TypeId) (cs : Array Value) : Prop := w.heap[g]? = some (.cells cs t (0, 0))
section
variable {w w' : World} {g : Nat} {t : TypeId} {cs : Array Value}
theorem Blk.lt (h : Blk w g t cs) : g < w.heap.size := by
  rcases Nat.lt_or_ge g w.heap.size with hlt | hge
  · exact hlt
  · unfold Blk at h; rw [Array.getElem?_eq_none hge] at h; cases h
theorem Blk.cell (h : Blk w g t cs) (i : Nat) : w.cell? ⟨g, i, none⟩ = cs[i]? := cell_of_row w g i cs t (0, 0) h
theorem Blk.frozen (h : Blk w g t cs) (i : Nat) : w.frozen? ⟨g, i, none⟩ = false := by
  unfold Blk at h
  simp [World.frozen?, h]
theorem Blk.new (w : World) (t : TypeId) (cs : Array Value) : Blk (w.alloc (.cells cs t)) w.heap.size t cs := heap_alloc_new w _
theorem Blk.drewN (h : Blk w g t cs) (n : Nat) : Blk (w.drewN n) g t cs := h
theorem Blk.alloc (h : Blk w g t cs) (o : Obj) : Blk (w.alloc o) g t cs := (Below.heap_alloc w o g h.lt).trans h
theorem Blk.set_ (h : Blk w g t cs) (i : Nat) (u : Value) : Blk (w.setCell ⟨g, i, none⟩ u) g t (cs.setIfInBounds i u) := by
  unfold Blk at h ⊢
  simp [World.setCell, Array.getElem?_modify, h]
theorem Blk.far (h : Blk w g t cs) {p : Addr} (hp : g ≠ p.block) (u : Value) : Blk (w.setCell p u) g t cs := (Below.heap_setCell w p u g hp).trans h
theorem Blk.below {B : Nat} (h : Blk w g t cs) (hb : Below B w w') (hg : g < B) : Blk w' g t cs := (hb.block g hg).trans h
theorem Blk.ext (h : Blk w g t cs) (hb : Ext w w') : Blk w' g t cs := h.below hb h.lt
theorem Blk.keep (h : Blk w g t cs) (e : w'.heap[g]? = w.heap[g]?) : Blk w' g t cs := e.trans h
theorem Blk.ints {cap n : Nat} {xs : List Int} (h : Blk w g t cs) (hn : xs.length = n) (h2 : n ≤ 9223372036854775807) (hx : ∀ x ∈ xs, -9223372036854775808 ≤ x ∧ x ≤ 9223372036854775807)
    (hc : ∀ (j : Nat) (x : Int), xs[j]? = some x → cs[j]? = some (Value.int .i64 x)) (_hcap : n ≤ cap) : IntSl w (some ⟨g, 0, none⟩) n xs := by
  refine ⟨hn, h2, hx, fun _ => ⟨_, rfl, fun j x hj => ?_⟩⟩
  have e : (⟨g, 0, none⟩ : Addr).add j = ⟨g, j, none⟩ := by unfold Addr.add; split <;> simp_all
  rw [e, h.cell j]
  exact hc j x hj
end

/-- It hands back a slice that reads as these numbers; nothing old has turned. -/
def RetInts (xs : List Int) (w : World) (e : Ending) (w' : World) : Prop := ∃ A m c, e = .returned (.slice A m c) ∧ IntSl w' A m xs ∧ Ext w w'

theorem take_succ_of {α : Type} {l : List α} {k : Nat} {x : α} (h : l[k]? = some x) : l.take (k + 1) = l.take k ++ [x] := by
  rw [List.take_add_one, h]; rfl
theorem take_len_of {α : Type} {l : List α} {k n : Nat} (h : l.length = n) (hk : ¬ k < n) : l.take k = l := List.take_of_length_le (by omega)
end Go.Proofs.YtdgflniahoidmaaGreat

/- How an argument is opened (a slice of numbers), and the frame of a law's row: an argument reads behind the call as before, where nothing that was there has turned. No program in sight but for its alias. -/
namespace Go.Proofs.YtdgflniahoidmaaGreat
open Go.RowKit Go.WideShapes Go.ChangeShapes Go.ChangeAt

theorem wf_i64_bd {n : Int} (h : (Lit.int .i64 n).wf = true) : -9223372036854775808 ≤ n ∧ n ≤ 9223372036854775807 := by
  have h1 : IntKind.i64.min = -9223372036854775808 := rfl
  have h2 : IntKind.i64.max = 9223372036854775807 := rfl
  simp only [Lit.wf, Bool.and_eq_true, decide_eq_true_eq] at h
  omega

section
variable {H : Type} {enc : TypeId × Value → H} {P : Program} {W W' : World}

theorem open_intCs {t e : TypeId} {base fuel : Nat} {cs : List Value} {x : DataW H × List MemPlace} (ht : P.underlying t = some (.slice e)) (he : P.underlying e = some (.int .i64)) (ce : P.cellsOf e = 1)
    (hf : DataW.trod enc P W base (fun _ => true) true fuel t cs = some x) : ∃ A n c xs, cs = [.slice A n c] ∧ IntSl W A n xs := by
  rcases open_ints ht he ce hf with ⟨hcs, _⟩ | ⟨a, len, cap, zs, hcs, _, hl, hm, hz, _, hcell, hwz⟩
  · exact ⟨none, 0, 0, [], hcs, IntSl.nil W⟩
  · refine ⟨some a, len, cap, zs.take len, hcs, by simp at hz; simp; omega, by unfold maxLen at hm; omega, fun x hx => wf_i64_bd (hwz x (List.mem_of_mem_take hx)), fun _ => ⟨a, rfl, fun j x hj => ?_⟩⟩
    rw [List.getElem?_take] at hj
    split at hj
    · have hjl : j < zs.length := (List.getElem?_eq_some_iff.1 hj).1
      rw [hcell j hjl]
      simp [List.getD, hj]
    · cases hj

theorem open_intSl {t e : TypeId} {base : Nat} {v : Value} {d : DataW H} {p : List MemPlace} (ht : P.underlying t = some (.slice e)) (he : P.underlying e = some (.int .i64)) (ce : P.cellsOf e = 1)
    (hval : Value.okWide P W .any base t v) (hd : DataW.Trod enc P W 0 (fun _ => true) true t v d p) : ∃ A n c xs, v = .slice A n c ∧ IntSl W A n xs := by
  obtain ⟨a0, len, cap, rfl⟩ := okWide_slice ht hval
  obtain ⟨fuel, hf⟩ := hd
  obtain ⟨A, n, c, xs, hcs, h⟩ := open_intCs ht he ce hf
  simp [Value.cells] at hcs
  obtain ⟨rfl, rfl, rfl⟩ := hcs
  exact ⟨_, _, _, _, rfl, h⟩

theorem open_arr2 {t e : TypeId} {base : Nat} {v : Value} {d : DataW H} {p : List MemPlace} (ht : P.underlying t = some (.array 2 e)) (he : P.underlying e = some (.int .i64)) (ct : P.cellsOf t = 2) (ce : P.cellsOf e = 1)
    (hval : Value.okWide P W .any base t v) (hd : DataW.Trod enc P W 0 (fun _ => true) true t v d p) :
    ∃ x y, v = .agg #[.int .i64 x, .int .i64 y] ∧ (-9223372036854775808 ≤ x ∧ x ≤ 9223372036854775807) ∧ (-9223372036854775808 ≤ y ∧ y ≤ 9223372036854775807) := by
  have hv : ∃ cs, v = .agg cs ∧ cs.size = P.cellsOf t := by
    simp only [Value.okWide, ht] at hval
    obtain ⟨cs, h1, h2, _⟩ := hval
    exact ⟨cs, h1, h2⟩
  obtain ⟨cs, rfl, hsz⟩ := hv
  rw [ct] at hsz
  obtain ⟨fuel, hf⟩ := hd
  obtain ⟨xs, m, _, _, _, hxl, hx⟩ := DataW.trod_array ht hf
  have h0 := hx 0 (by omega)
  have h1 := hx 1 (by omega)
  rw [ce] at h0 h1
  obtain ⟨cs⟩ := cs
  match cs, hsz with
  | [c0, c1], _ =>
    simp [Value.cells] at h0 h1
    have g0 : ∃ z, xs[0]? = some z := ⟨xs[0], List.getElem?_eq_getElem (by omega)⟩
    have g1 : ∃ z, xs[1]? = some z := ⟨xs[1], List.getElem?_eq_getElem (by omega)⟩
    obtain ⟨z0, hz0⟩ := g0
    obtain ⟨z1, hz1⟩ := g1
    rw [hz0] at h0
    rw [hz1] at h1
    obtain ⟨x, e0, _, wx⟩ := DataW.trod_int he h0
    obtain ⟨y, e1, _, wy⟩ := DataW.trod_int he h1
    simp at e0 e1
    subst e0 e1
    exact ⟨x, y, rfl, wf_i64_bd wx, wf_i64_bd wy⟩

theorem trodAll_stays (hl : laidOutB P = true) (hb : Below W.heap.size W W') {sp : Nat → Bool} : ∀ {ts : List TypeId} {vs : List Value} {ds : List (DataW H)} {ps : List MemPlace},
    (∀ t ∈ ts, P.readableRec t = true ∧ t < P.types.size) → DataW.TrodAll enc P W 0 (fun _ => true) true ts vs ds ps → (∀ x ∈ ps, x.block < W.heap.size) → (∀ x ∈ ps, sp x.block = true) →
    DataW.TrodAll enc P W' 0 sp true ts vs ds ps
  | [], [], [], _, _, h, _, _ => h
  | [], _ :: _, _, _, _, h, _, _ => by simp [DataW.TrodAll] at h
  | [], [], _ :: _, _, _, h, _, _ => by simp [DataW.TrodAll] at h
  | _ :: _, [], _, _, _, h, _, _ => by simp [DataW.TrodAll] at h
  | _ :: _, _ :: _, [], _, _, h, _, _ => by simp [DataW.TrodAll] at h
  | t :: ts, v :: vs, d :: ds, ps, hr, ⟨p, q, h0, h1, e⟩, hlt, hs => by
    subst e
    exact ⟨p, q, WideElems.Trod_stays hl (hr t (List.mem_cons_self ..)).1 (hr t (List.mem_cons_self ..)).2 h0 (fun x hx => hb.same (hlt x (List.mem_append_left _ hx))) (fun x hx => hs x (List.mem_append_left _ hx)),
      trodAll_stays hl hb (fun t ht => hr t (List.mem_cons_of_mem _ ht)) h1 (fun x hx => hlt x (List.mem_append_right _ hx)) (fun x hx => hs x (List.mem_append_right _ hx)), rfl⟩

/-- The frame of a law's row: it answers true, its arguments read as they did. -/
theorem law_post {f : Func} {s : ChangeSpec} {apart fresh handsOn : Bool} {args : Array Value} {ds : List (DataW H)} {before : List MemPlace} {tb : TypeId}
    (hl : laidOutB P = true) (hr : (f.params.toList.all fun t => P.readableRec t && decide (t < P.types.size)) = true) (htb : P.underlying tb = some .bool) (hft : f.resultTypes = #[tb]) (hsv : s.vars = [])
    (hW : DataW.Whole enc P f.params.toList s.vars apart W args.toList ds [] before)
    (hres : (s.fn H (ds ++ [])).results = [.lit (.bool true)]) (hargs : (s.fn H (ds ++ [])).args = ds) (hvars : (s.fn H (ds ++ [])).vars = [])
    (hb : Below W.heap.size W W') : s.post enc P f apart fresh handsOn false W args (.bool true) W' := by
  have hlt : ∀ p ∈ before, p.block < W.heap.size := fun p hp => hW.lt p hp
  have hW' := hW
  obtain ⟨p, q, hA, hV, hpq, _, _⟩ := hW'
  rw [hsv] at hV
  obtain ⟨_, rfl⟩ := trodVars_none hV
  rw [List.append_nil] at hpq
  subst hpq
  refine ⟨ds, [], before, [], before, [], hW, ?_, ?_, ?_, hb.frame _, fun h => by cases h⟩
  · rw [hft, hres]
    exact trodAll_cons_mk (shut_bool htb true) trodAll_mk0
  · rw [hargs]
    exact trodAll_stays hl hb (fun t ht => by have := List.all_eq_true.1 hr t ht; simpa using this) hA hlt (fun x hx => by simpa using hlt x hx)
  · rw [hsv, hvars]
    rfl
end
end Go.Proofs.YtdgflniahoidmaaGreat

/- replevinref01.SameInts. -/
namespace Go.Proofs.YtdgflniahoidmaaGreat
open Go.RowKit

def sameV (xs ys : List Int) : Bool := decide (xs = ys)
theorem take_eq_succ {α : Type} {xs ys : List α} {k : Nat} {x : α} (h : xs.take k = ys.take k) (hx : xs[k]? = some x) (hy : ys[k]? = some x) : xs.take (k + 1) = ys.take (k + 1) := by
  rw [take_succ_of hx, take_succ_of hy, h]

set_option maxHeartbeats 1000000 in
theorem same_c (A : Option Addr) (n c : Nat) (xs : List Int) (A' : Option Addr) (n' c' : Nat) (ys : List Int) (w : World) (h : IntSl w A n xs) (h' : IntSl w A' n' ys) :
    Calls Tryz.prog 17 #[.slice A n c, .slice A' n' c'] w fun e w' => e = .returned (.bool (sameV xs ys)) ∧ Ext w w' := by
  have hn := h.len
  by_cases hl : n = n'
  · subst hl
    go_enter Tryz.func17, Tryz.ntmps17
    go_wp2
    go_loopw [5] (fun i wr => ∃ k : Nat, k ≤ n ∧ i = .int .i64 k ∧ xs.take k = ys.take k ∧ Ext w wr) (fun i _ => n - (intOf i).toNat)
    case atStart => exact ⟨0, Nat.zero_le _, rfl, by simp, Ext.refl w⟩
    case round =>
      obtain ⟨k, hk, rfl, he, hx⟩ := hrel
      have HE := Lib.hid he
      have HX := Lib.hid hx
      clear he hx
      by_cases hlt : k < n
      · obtain ⟨ad, x, rfl, hx1, hc1, _⟩ := (h.ext HX.out).at_ hlt
        obtain ⟨ad', y, rfl, hy1, hc1', _⟩ := (h'.ext HX.out).at_ hlt
        have b0 : (0 : Int) ≤ (k : Int) := by omega
        have b1 : (k : Int) < (n : Int) := by omega
        go_wp2
        go_quiet (fail)
        go_wp2
        · go_ret
          have hne : (x != y) = true := by assumption
          refine ⟨ret_bool ?_, HX.out.drewN _⟩
          have : xs ≠ ys := fun e => by
            subst e
            have := hx1.out.symm.trans hy1.out
            simp at this hne
            exact hne this
          simp [sameV, this]
        · have hne : (x != y) = false := by assumption
          go_roundw
          case rel =>
            have e : x = y := by simpa using hne
            subst e
            exact ⟨k + 1, by omega, by go_num, take_eq_succ HE.out hx1.out hy1.out, HX.out.drewN _⟩
          case measure => simp [intOf]; omega
      · go_wp2
        go_ret
        refine ⟨ret_bool ?_, HX.out⟩
        have e := HE.out
        rw [take_len_of h.1 hlt, take_len_of h'.1 hlt] at e
        simp [sameV, e]
  · have hb : ((n : Int) != (n' : Int)) = true := by rw [bne_iff_ne]; omega
    have HL := Lib.hid hl
    clear hl
    go_enter Tryz.func17, Tryz.ntmps17
    go_wp2
    go_ret
    refine ⟨ret_bool ?_, Ext.refl w⟩
    have : xs ≠ ys := fun e => HL.out (by rw [← h.1, ← h'.1, e])
    simp [sameV, this]
end Go.Proofs.YtdgflniahoidmaaGreat

/- A slice of truths that reads as a list; replevinref03.SameBools. -/
namespace Go.Proofs.YtdgflniahoidmaaGreat
open Go.RowKit

/-- A slice of truths that reads as xs. -/
def BoolSl (w : World) (A : Option Addr) (n : Nat) (xs : List Bool) : Prop :=
  xs.length = n ∧ n ≤ 9223372036854775807 ∧ (0 < n → ∃ ad, A = some ad ∧ ∀ (j : Nat) (x : Bool), xs[j]? = some x → w.cell? (ad.add j) = some (.bool x))
section
variable {w w' : World} {A : Option Addr} {n : Nat} {xs : List Bool}
theorem BoolSl.ext (h : BoolSl w A n xs) (hx : Ext w w') : BoolSl w' A n xs :=
  ⟨h.1, h.2.1, fun hn => let ⟨ad, e, hc⟩ := h.2.2 hn; ⟨ad, e, fun j x hj => hx.cell (hc j x hj)⟩⟩
theorem BoolSl.nil (w : World) : BoolSl w none 0 [] := ⟨rfl, by decide, fun h => absurd h (by omega)⟩
theorem BoolSl.len (h : BoolSl w A n xs) : n ≤ 9223372036854775807 := h.2.1
theorem BoolSl.at_ (h : BoolSl w A n xs) {k : Nat} (hk : k < n) : ∃ ad x, A = some ad ∧ Hid (xs[k]? = some x) ∧ w.cell? (ad.add k) = some (.bool x) := by
  obtain ⟨ad, e, hc⟩ := h.2.2 (by omega)
  have hl : k < xs.length := by have := h.1; omega
  have hx : xs[k]? = some xs[k] := List.getElem?_eq_getElem hl
  exact ⟨ad, xs[k], e, Lib.hid hx, hc k _ hx⟩
end
theorem Blk.bools {w : World} {g : Nat} {t : TypeId} {cs : Array Value} {n : Nat} {xs : List Bool} (h : Blk w g t cs) (hn : xs.length = n) (h2 : n ≤ 9223372036854775807)
    (hc : ∀ (j : Nat) (x : Bool), xs[j]? = some x → cs[j]? = some (Value.bool x)) : BoolSl w (some ⟨g, 0, none⟩) n xs := by
  refine ⟨hn, h2, fun _ => ⟨_, rfl, fun j x hj => ?_⟩⟩
  have e : (⟨g, 0, none⟩ : Addr).add j = ⟨g, j, none⟩ := by unfold Addr.add; split <;> simp_all
  rw [e, h.cell j]
  exact hc j x hj
/-- It hands back a slice that reads as these truths; nothing old has turned. -/
def RetBools (xs : List Bool) (w : World) (e : Ending) (w' : World) : Prop := ∃ A m c, e = .returned (.slice A m c) ∧ BoolSl w' A m xs ∧ Ext w w'


end Go.Proofs.YtdgflniahoidmaaGreat

/- How more kinds of arguments are opened: a slice of numbers with its capacity, a slice of truths. -/
namespace Go.Proofs.YtdgflniahoidmaaGreat
open Go.RowKit Go.WideShapes Go.ChangeShapes Go.ChangeAt Go.Deep

section
variable {H : Type} {enc : TypeId × Value → H} {P : Program} {W : World}

theorem open_intSlC {t e : TypeId} {base : Nat} {v : Value} {d : DataW H} {p : List MemPlace} (ht : P.underlying t = some (.slice e)) (he : P.underlying e = some (.int .i64)) (ce : P.cellsOf e = 1)
    (hval : Value.okWide P W .any base t v) (hd : DataW.Trod enc P W 0 (fun _ => true) true t v d p) : ∃ A n c xs, v = .slice A n c ∧ IntSl W A n xs ∧ n ≤ c := by
  obtain ⟨a0, len0, cap0, rfl⟩ := okWide_slice ht hval
  obtain ⟨fuel, hf⟩ := hd
  have hf' := hf
  obtain ⟨A, n, c, xs, hcs, h⟩ := open_intCs ht he ce hf
  simp [Value.cells] at hcs
  obtain ⟨rfl, rfl, rfl⟩ := hcs
  refine ⟨_, _, _, _, rfl, h, ?_⟩
  rcases open_ints ht he ce hf' with ⟨hcs, _⟩ | ⟨a, len, cap, zs, hcs, _, hl, _⟩
  · simp [Value.cells] at hcs; omega
  · simp [Value.cells] at hcs; omega

theorem open_boolSl {t e : TypeId} {base : Nat} {v : Value} {d : DataW H} {p : List MemPlace} (ht : P.underlying t = some (.slice e)) (he : P.underlying e = some .bool) (ce : P.cellsOf e = 1)
    (hval : Value.okWide P W .any base t v) (hd : DataW.Trod enc P W 0 (fun _ => true) true t v d p) : ∃ A n c xs, v = .slice A n c ∧ BoolSl W A n xs := by
  obtain ⟨a0, len0, cap0, rfl⟩ := okWide_slice ht hval
  obtain ⟨fuel, hf⟩ := hd
  rcases open_bools ht he ce hf with ⟨hcs, _⟩ | ⟨a, len, cap, B, hcs, _, hl, hm, _, hcell⟩
  · simp [Value.cells] at hcs
    obtain ⟨rfl, rfl, rfl⟩ := hcs
    exact ⟨_, _, _, [], rfl, BoolSl.nil W⟩
  · simp [Value.cells] at hcs
    obtain ⟨rfl, rfl, rfl⟩ := hcs
    refine ⟨_, _, _, (List.range len0).map B, rfl, by simp, by unfold maxLen at hm; omega, fun _ => ⟨a, rfl, fun j x hj => ?_⟩⟩
    have hjl : j < len0 := by
      have := (List.getElem?_eq_some_iff.1 hj).1
      simpa using this
    simp [hjl] at hj
    rw [hcell j (by omega), hj]
end
end Go.Proofs.YtdgflniahoidmaaGreat

/- A slice of slices of numbers that reads as a list of lists. -/
namespace Go.Proofs.YtdgflniahoidmaaGreat
open Go.RowKit Go.WideShapes Go.ChangeShapes Go.ChangeAt Go.Deep

/-- A slice whose elements are slices that read as the lists L. -/
def RowsSl (w : World) (A : Option Addr) (n : Nat) (L : List (List Int)) : Prop :=
  L.length = n ∧ n ≤ 9223372036854775807 ∧ (0 < n → ∃ ad, A = some ad ∧ ∀ (j : Nat) (xs : List Int), L[j]? = some xs → ∃ A' n' c', w.cell? (ad.add j) = some (.slice A' n' c') ∧ IntSl w A' n' xs)
section
variable {w w' : World} {A : Option Addr} {n : Nat} {L : List (List Int)}
theorem RowsSl.ext (h : RowsSl w A n L) (hx : Ext w w') : RowsSl w' A n L :=
  ⟨h.1, h.2.1, fun hn => let ⟨ad, e, hc⟩ := h.2.2 hn; ⟨ad, e, fun j xs hj => let ⟨A', n', c', h1, h2⟩ := hc j xs hj; ⟨A', n', c', hx.cell h1, h2.ext hx⟩⟩⟩
theorem RowsSl.nil (w : World) : RowsSl w none 0 [] := ⟨rfl, by decide, fun h => absurd h (by omega)⟩
theorem RowsSl.len (h : RowsSl w A n L) : n ≤ 9223372036854775807 := h.2.1
theorem RowsSl.at_ (h : RowsSl w A n L) {k : Nat} (hk : k < n) :
    ∃ ad xs A' n' c', A = some ad ∧ Hid (L[k]? = some xs) ∧ w.cell? (ad.add k) = some (.slice A' n' c') ∧ IntSl w A' n' xs := by
  obtain ⟨ad, e, hc⟩ := h.2.2 (by omega)
  have hl : k < L.length := by have := h.1; omega
  have hx : L[k]? = some L[k] := List.getElem?_eq_getElem hl
  obtain ⟨A', n', c', h1, h2⟩ := hc k _ hx
  exact ⟨ad, L[k], A', n', c', e, Lib.hid hx, h1, h2⟩
end

section
variable {H : Type} {enc : TypeId × Value → H} {P : Program} {W : World}

theorem open_rowsCs {t e i : TypeId} {base fuel : Nat} {cs : List Value} {x : DataW H × List MemPlace} (ht : P.underlying t = some (.slice e)) (he : P.underlying e = some (.slice i)) (hi : P.underlying i = some (.int .i64)) (ce : P.cellsOf e = 1) (ci : P.cellsOf i = 1)
    (hf : DataW.trod enc P W base (fun _ => true) true fuel t cs = some x) : ∃ A n c L, cs = [.slice A n c] ∧ RowsSl W A n L := by
  rcases open_slice1 ht ce hf with ⟨hcs, _⟩ | ⟨a, len, cap, m, fu, V, D, Pl, hcs, _, hl, hm, hmm, _, hcell⟩
  · exact ⟨none, 0, 0, [], hcs, RowsSl.nil W⟩
  · simp only [if_true] at hmm
    have key : ∀ j, j < len → ∃ xs A' n' c', W.cell? (a.add j) = some (.slice A' n' c') ∧ IntSl W A' n' xs := by
      intro j hj
      obtain ⟨h1, h2⟩ := hcell j (by omega)
      obtain ⟨A', n', c', xs, hv, hs⟩ := open_intCs he hi ci h2
      have hv' : V j = .slice A' n' c' := by simpa using hv
      exact ⟨xs, A', n', c', by rw [h1, hv'], hs⟩
    have key2 : ∀ j : Nat, ∃ xs : List Int, j < len → ∃ A' n' c', W.cell? (a.add j) = some (.slice A' n' c') ∧ IntSl W A' n' xs := by
      intro j
      by_cases hj : j < len
      · obtain ⟨xs, A', n', c', h1, h2⟩ := key j hj
        exact ⟨xs, fun _ => ⟨A', n', c', h1, h2⟩⟩
      · exact ⟨[], fun h => absurd h hj⟩
    obtain ⟨F, hF⟩ := Classical.axiomOfChoice key2
    refine ⟨some a, len, cap, (List.range len).map F, hcs, by simp, by unfold maxLen at hm; omega, fun _ => ⟨a, rfl, fun j xs hj => ?_⟩⟩
    have hjl : j < len := by
      have := (List.getElem?_eq_some_iff.1 hj).1
      simpa using this
    simp [hjl] at hj
    subst hj
    exact hF j hjl

theorem open_rowsSl {t e i : TypeId} {base : Nat} {v : Value} {d : DataW H} {p : List MemPlace} (ht : P.underlying t = some (.slice e)) (he : P.underlying e = some (.slice i)) (hi : P.underlying i = some (.int .i64)) (ce : P.cellsOf e = 1) (ci : P.cellsOf i = 1)
    (hval : Value.okWide P W .any base t v) (hd : DataW.Trod enc P W 0 (fun _ => true) true t v d p) : ∃ A n c L, v = .slice A n c ∧ RowsSl W A n L := by
  obtain ⟨a0, len, cap, rfl⟩ := okWide_slice ht hval
  obtain ⟨fuel, hf⟩ := hd
  obtain ⟨A, n, c, L, hcs, h⟩ := open_rowsCs ht he hi ce ci hf
  simp [Value.cells] at hcs
  obtain ⟨rfl, rfl, rfl⟩ := hcs
  exact ⟨_, _, _, _, rfl, h⟩
end
end Go.Proofs.YtdgflniahoidmaaGreat

/- A slice that was just built reads as its elements. -/
namespace Go.Proofs.YtdgflniahoidmaaGreat
open Go.RowKit


theorem intSl_new (w : World) (cs : Array Value) (T : TypeId) (xs : List Int) (n : Nat) (hn : xs.length = n) (hcs : cs.toList = xs.map (Value.int .i64)) (h2 : n ≤ 9223372036854775807) (h3 : ∀ x ∈ xs, -9223372036854775808 ≤ x ∧ x ≤ 9223372036854775807) :
    IntSl (w.alloc (.cells cs T)) (some ⟨w.heap.size, 0, none⟩) n xs := by
  refine ⟨hn, h2, h3, fun _ => ⟨_, rfl, fun j x hj => ?_⟩⟩
  have e : (⟨w.heap.size, 0, none⟩ : Addr).add j = ⟨w.heap.size, j, none⟩ := by unfold Addr.add; split <;> simp_all
  rw [e, cell_of_row (w.alloc (.cells cs T)) w.heap.size j cs T (0, 0) (heap_alloc_new w _)]
  rw [← Array.getElem?_toList, hcs]
  simp [hj]

theorem boolSl_new (w : World) (cs : Array Value) (T : TypeId) (xs : List Bool) (n : Nat) (hn : xs.length = n) (hcs : cs.toList = xs.map Value.bool) (h2 : n ≤ 9223372036854775807) :
    BoolSl (w.alloc (.cells cs T)) (some ⟨w.heap.size, 0, none⟩) n xs := by
  refine ⟨hn, h2, fun _ => ⟨_, rfl, fun j x hj => ?_⟩⟩
  have e : (⟨w.heap.size, 0, none⟩ : Addr).add j = ⟨w.heap.size, j, none⟩ := by unfold Addr.add; split <;> simp_all
  rw [e, cell_of_row (w.alloc (.cells cs T)) w.heap.size j cs T (0, 0) (heap_alloc_new w _)]
  rw [← Array.getElem?_toList, hcs]
  simp [hj]

theorem intSl_newg (cs : Array Value) (T : TypeId) (xs : List Int) (n : Nat) (hn : xs.length = n) (hcs : cs.toList = xs.map (Value.int .i64)) (h2 : n ≤ 9223372036854775807) (h3 : ∀ x ∈ xs, -9223372036854775808 ≤ x ∧ x ≤ 9223372036854775807)
    (w : World) (g : Nat) (hg : w.heap.size = g) : IntSl (w.alloc (.cells cs T)) (some ⟨g, 0, none⟩) n xs := by
  subst hg; exact intSl_new w cs T xs n hn hcs h2 h3

theorem boolSl_newg (cs : Array Value) (T : TypeId) (xs : List Bool) (n : Nat) (hn : xs.length = n) (hcs : cs.toList = xs.map Value.bool) (h2 : n ≤ 9223372036854775807)
    (w : World) (g : Nat) (hg : w.heap.size = g) : BoolSl (w.alloc (.cells cs T)) (some ⟨g, 0, none⟩) n xs := by
  subst hg; exact boolSl_new w cs T xs n hn hcs h2
end Go.Proofs.YtdgflniahoidmaaGreat

/- A slice of slices that was just built; a part of one. -/
namespace Go.Proofs.YtdgflniahoidmaaGreat
open Go.RowKit

/-- These values are slices that read as these lists. -/
def RowVals (w : World) : List Value → List (List Int) → Prop
  | [], [] => True
  | v :: vs, xs :: L => (∃ A n c, v = .slice A n c ∧ IntSl w A n xs) ∧ RowVals w vs L
  | _, _ => False
theorem RowVals.at_ {w : World} : ∀ {vs : List Value} {L : List (List Int)} {j : Nat} {xs : List Int}, RowVals w vs L → L[j]? = some xs → ∃ A n c, vs[j]? = some (.slice A n c) ∧ IntSl w A n xs
  | [], [], _, _, _, h => by simp at h
  | v :: vs, ys :: L, 0, xs, h, hj => by
    obtain ⟨⟨A, n, c, rfl, hs⟩, _⟩ := h
    obtain rfl : ys = xs := by simpa using hj
    exact ⟨A, n, c, rfl, hs⟩
  | v :: vs, ys :: L, j + 1, xs, h, hj => by
    obtain ⟨A, n, c, h1, h2⟩ := RowVals.at_ (j := j) (xs := xs) h.2 (by simpa using hj)
    exact ⟨A, n, c, by simpa using h1, h2⟩
theorem RowVals.nil (w : World) : RowVals w [] [] := trivial
theorem RowVals.cons {w : World} {A : Option Addr} {n c : Nat} {xs : List Int} {vs : List Value} {L : List (List Int)} (h : IntSl w A n xs) (t : RowVals w vs L) : RowVals w (.slice A n c :: vs) (xs :: L) := ⟨⟨A, n, c, rfl, h⟩, t⟩
theorem rowsSl_newg {w : World} {g : Nat} (vs : List Value) (T : TypeId) (L : List (List Int)) (n : Nat) (hn : L.length = n) (h2 : n ≤ 9223372036854775807) (hg : w.heap.size = g) (h : RowVals w vs L) :
    RowsSl (w.alloc (.cells vs.toArray T)) (some ⟨g, 0, none⟩) n L := by
  subst hg
  refine ⟨hn, h2, fun _ => ⟨_, rfl, fun j xs hj => ?_⟩⟩
  obtain ⟨A, n', c, h1, h2⟩ := h.at_ hj
  refine ⟨A, n', c, ?_, h2.ext ((Ext.refl w).alloc _)⟩
  have e : (⟨w.heap.size, 0, none⟩ : Addr).add j = ⟨w.heap.size, j, none⟩ := by unfold Addr.add; split <;> simp_all
  rw [e, cell_of_row (w.alloc (.cells vs.toArray T)) w.heap.size j vs.toArray T (0, 0) (heap_alloc_new w _)]
  simpa using h1
theorem RowsSl.take {w : World} {A : Option Addr} {n k : Nat} {L : List (List Int)} (h : RowsSl w A n L) (hk : k ≤ n) : RowsSl w A k (L.take k) := by
  refine ⟨by rw [List.length_take, h.1]; omega, by have := h.2.1; omega, fun hp => ?_⟩
  obtain ⟨ad, e, hc⟩ := h.2.2 (by omega)
  refine ⟨ad, e, fun j xs hj => ?_⟩
  have hjk : j < k := by have := (List.getElem?_eq_some_iff.1 hj).1; rw [List.length_take] at this; omega
  rw [List.getElem?_take_of_lt hjk] at hj
  exact hc j xs hj
/-- It hands back a slice of slices, with room for all of them. -/
def RetRowsC (L : List (List Int)) (w : World) (e : Ending) (w' : World) : Prop := ∃ A n c, e = .returned (.slice A n c) ∧ RowsSl w' A n L ∧ n ≤ c ∧ Ext w w'
theorem bd_lit {xs : List Int} (h : (xs.all fun x => decide (-100000 ≤ x) && decide (x ≤ 100000)) = true) : ∀ x ∈ xs, -9223372036854775808 ≤ x ∧ x ≤ 9223372036854775807 := by
  intro x hx
  have := List.all_eq_true.1 h x hx
  simp at this
  omega
end Go.Proofs.YtdgflniahoidmaaGreat
