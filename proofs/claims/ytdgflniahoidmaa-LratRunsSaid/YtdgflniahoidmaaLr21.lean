/- Layer 11's law: awake answers true. -/
import Derived.Test.YtdgflniahoidmaaLr19
import Derived.Test.YtdgflniahoidmaaFew
set_option maxRecDepth 100000
namespace Go.Proofs.Ytdgflniahoidmaa
open Go.RowKit

def RetFew10 (w : World) (e : Ending) (w' : World) : Prop := (∃ r, e = .returned (.bool r)) ∧ w = w'
set_option maxHeartbeats 2000000 in
theorem few10_c (A : Option Addr) (n c : Nat) (l : List Stp) (w : World) (h : StepsL w A n l) :
    Calls Try.prog 16 #[.slice A n c] w (RetFew10 w) := by
  have hn := h.2.1
  have HS := Lib.hid h
  clear h
  by_cases hb : 200 < n
  · go_enter Try.func16, Try.ntmps16
    go_wp2
    go_ret
    exact ⟨⟨_, rfl⟩, rfl⟩
  · have hb2 : n ≤ 200 := by omega
    go_enter Try.func16, Try.ntmps16
    go_wp2
    go_loop [3] (fun i => ∃ k : Nat, k ≤ n ∧ i = .int .i64 k) (fun i => n - (intOf i).toNat)
    case atStart => exact ⟨0, Nat.zero_le _, rfl⟩
    case round =>
      obtain ⟨k, hk, rfl⟩ := hrel
      by_cases hlt : k < n
      · obtain ⟨ad, s, rfl, hs, A1, n1, c1, A2, n2, c2, hat, hi1, hi2⟩ := HS.out.at_ hlt
        obtain ⟨q0, q1, q2, q3⟩ := hat
        have hl1 := hi1.len
        have hl2 := hi2.len
        clear hi1 hi2 hs
        by_cases h1 : 60 < n1
        · go_wp2
          go_ret
          exact ⟨⟨_, rfl⟩, rfl⟩
        · by_cases h2 : 200 < n2
          · go_wp2
            go_ret
            exact ⟨⟨_, rfl⟩, rfl⟩
          · go_wp2
            go_round
            case rel => exact ⟨k + 1, by omega, by go_num⟩
            case measure => simp [intOf]; omega
      · go_wp2
        go_ret
        exact ⟨⟨_, rfl⟩, rfl⟩

def RetFew11 (n n' : Nat) (w : World) (e : Ending) (w' : World) : Prop := ∃ r, e = .returned (.bool r) ∧ (r = true → n ≤ 60 ∧ n' ≤ 60) ∧ Ext w w'
set_option maxHeartbeats 2000000 in
theorem few11_c (v : Int) (A : Option Addr) (n c : Nat) (L : List (List Int)) (A' : Option Addr) (n' c' : Nat) (l : List Stp) (w : World) (h : RowsSl w A n L) (h' : StepsL w A' n' l) :
    Calls Try.prog 5 #[.agg #[.int .i64 v, .slice A n c], .slice A' n' c'] w (RetFew11 n n' w) := by
  have hn := h.len
  have hn' := h'.2.1
  have HX0 := Lib.hid ((Ext.refl w).alloc (Obj.cells #[.int .i64 v, .slice A n c] 24))
  have HB0 := Lib.hid (Blk.new w 24 #[.int .i64 v, .slice A n c])
  have HS := Lib.hid h
  have HS' := Lib.hid h'
  clear h h'
  have b0 := HB0.out.cell 0
  have b1 := HB0.out.cell 1
  cases hf : fewV L with
  | false =>
    have HF := Lib.hid hf
    clear hf
    go_enter Try.func5, Try.ntmps5
    go_wp2_with fail
    refine (few04_c _ _ _ _ L _ (HS.out.ext HX0.out)).mono ?_
    rintro e w1 ⟨rfl, hx1⟩
    rw [HF.out]
    have HX1 := Lib.hid (HX0.out.trans hx1)
    clear hx1
    go_wp2_with fail
    go_ret
    exact ⟨false, rfl, fun e => (by cases e), HX1.out⟩
  | true =>
    have HF := Lib.hid hf
    clear hf
    by_cases h1 : n ≤ 60
    · go_enter Try.func5, Try.ntmps5
      go_wp2_with fail
      refine (few04_c _ _ _ _ L _ (HS.out.ext HX0.out)).mono ?_
      rintro e w1 ⟨rfl, hx1⟩
      rw [HF.out]
      have HX1 := Lib.hid (HX0.out.trans hx1)
      have c1 := (HB0.out.ext hx1).cell 1
      clear hx1 b0 b1
      go_wp2_with fail
      refine (few10_c _ _ _ l _ (HS'.out.ext HX1.out)).mono ?_
      rintro e w2 ⟨⟨r, rfl⟩, rfl⟩
      cases r
      · go_wp2_with fail
        go_ret
        exact ⟨false, rfl, fun e => (by cases e), HX1.out⟩
      · by_cases h2 : n' ≤ 60
        · go_wp2_with fail
          go_ret
          exact ⟨true, ret_bool (by first | (simp; done) | (simp; omega)), fun _ => ⟨h1, h2⟩, HX1.out⟩
        · go_wp2_with fail
          go_ret
          exact ⟨false, ret_bool (by first | (simp; done) | (simp; omega)), fun e => (by cases e), HX1.out⟩
    · go_enter Try.func5, Try.ntmps5
      go_wp2_with fail
      refine (few04_c _ _ _ _ L _ (HS.out.ext HX0.out)).mono ?_
      rintro e w1 ⟨rfl, hx1⟩
      rw [HF.out]
      have HX1 := Lib.hid (HX0.out.trans hx1)
      have c1 := (HB0.out.ext hx1).cell 1
      clear hx1 b0 b1
      go_wp2_with fail
      go_ret
      exact ⟨false, ret_bool (by first | (simp; done) | (simp; omega)), fun e => (by cases e), HX1.out⟩

/-- The two clauses of the law's own formula. -/
def bothL : List (List Int) := [[1], [-1]]
def RetBoth (w : World) (e : Ending) (w' : World) : Prop := ∃ A c, e = .returned (.agg #[.int .i64 1, .slice A 2 c]) ∧ RowsSl w' A 2 bothL ∧ Ext w w'
theorem both_c (w : World) : Calls Try.prog 17 #[] w (RetBoth w) := by
  have L1 := Lib.hid (intSl_newg #[.int .i64 1] 3 [1] 1 rfl rfl (by decide) (by decide))
  have L2 := Lib.hid (intSl_newg #[.int .i64 (-1)] 3 [-1] 1 rfl rfl (by decide) (by decide))
  go_enter Try.func17, Try.ntmps17
  go_wp2
  have hrow := rowsSl_newg (w := (((w.alloc (Obj.cells #[.int .i64 1, .slice (some ⟨w.heap.size + 1 + 1 + 1, 0, none⟩) 2 2] 24)).alloc (Obj.cells #[.int .i64 1] 3)).alloc (Obj.cells #[.int .i64 (-1)] 3))) (g := w.heap.size + 1 + 1 + 1) _ 40 bothL 2 rfl (by decide) (by simp) (RowVals.cons (c := 1) ((L1.out (w.alloc (Obj.cells #[.int .i64 1, .slice (some ⟨w.heap.size + 1 + 1 + 1, 0, none⟩) 2 2] 24)) (w.heap.size + 1) (by simp)).ext ((Ext.refl _).alloc _)) (RowVals.cons (c := 1) (L2.out ((w.alloc (Obj.cells #[.int .i64 1, .slice (some ⟨w.heap.size + 1 + 1 + 1, 0, none⟩) 2 2] 24)).alloc (Obj.cells #[.int .i64 1] 3)) (w.heap.size + 1 + 1) (by simp)) (RowVals.nil _)))
  have hb := (((Blk.new w 24 #[.int .i64 1, .slice (some ⟨w.heap.size + 1 + 1 + 1, 0, none⟩) 2 2]).alloc (Obj.cells #[.int .i64 1] 3)).alloc (Obj.cells #[.int .i64 (-1)] 3)).alloc (Obj.cells #[.slice (some ⟨w.heap.size + 1, 0, none⟩) 1 1, .slice (some ⟨w.heap.size + 1 + 1, 0, none⟩) 1 1] 40)
  have t0 := hb.cell 0
  have t1 := hb.cell 1
  refine bodyPost_ret (v := .agg #[.int .i64 1, .slice (some ⟨w.heap.size + 1 + 1 + 1, 0, none⟩) 2 2]) (by simp [results, Try.results17, go_sem, t0, t1]) rfl ⟨_, _, rfl, hrow, by (repeat (first | with_reducible exact Ext.refl _ | with_reducible apply Ext.alloc | with_reducible apply Ext.drew | with_reducible apply Ext.drewN | (apply Ext.trans'; assumption)))⟩

/-! ### One step, laid by the law itself -/
theorem steps_new {w : World} {g : Nat} {z : Stp} {A : Option Addr} {n c : Nat} {A' : Option Addr} {n' c' : Nat} (hg : w.heap.size = g) (h : IntSl w A n z.lits) (h' : IntSl w A' n' z.hints) :
    StepsL (w.alloc (.cells #[.int .i64 z.kind, .int .i64 z.id, .slice A n c, .slice A' n' c'] 42)) (some ⟨g, 0, none⟩) 1 [z] := by
  subst hg
  have hx := (Ext.refl w).alloc (.cells #[.int .i64 z.kind, .int .i64 z.id, .slice A n c, .slice A' n' c'] 42)
  have hb := Blk.new w 42 #[.int .i64 z.kind, .int .i64 z.id, .slice A n c, .slice A' n' c']
  refine ⟨rfl, by decide, fun _ => ⟨_, rfl, fun i s hs => ?_⟩⟩
  have hi : i = 0 := by have := (List.getElem?_eq_some_iff.1 hs).1; simp at this; omega
  subst hi
  simp at hs
  subst hs
  exact ⟨A, n, c, A', n', c', ⟨hb.cell 0, hb.cell 1, hb.cell 2, hb.cell 3⟩, h.ext hx, h'.ext hx⟩
theorem steps_nil (w : World) : StepsL w none 0 [] := ⟨rfl, by decide, fun h => absurd h (by omega)⟩
end Go.Proofs.Ytdgflniahoidmaa

namespace Go.Proofs.Ytdgflniahoidmaa
open Go.RowKit

theorem steps1 (kind id : Int) (lits hints : List Int) {w : World} {g : Nat} {A : Option Addr} {n c : Nat} {A' : Option Addr} {n' c' : Nat} (hg : w.heap.size = g) (h : IntSl w A n lits) (h' : IntSl w A' n' hints) :
    StepsL (w.alloc (.cells #[.int .i64 kind, .int .i64 id, .slice A n c, .slice A' n' c'] 42)) (some ⟨g, 0, none⟩) 1 [⟨kind, id, lits, hints⟩] := steps_new (z := ⟨kind, id, lits, hints⟩) hg h h'
theorem step1_c (p b : Nat) (S : CSt) (kind id : Int) (lits hints : List Int) (A : Option Addr) (n c : Nat) (A' : Option Addr) (n' c' : Nat) (w : World) (hm : CMem w p b S) (hi : Inv11 S) (hrl : S.rows.length ≤ 100000) (h : IntSl w A n lits) (h' : IntSl w A' n' hints) (hO : 0 < n' → Out (ChF p b) A') :
    Calls Try.prog 11 #[.pointer (some ⟨p, 0, none⟩), .agg #[.int .i64 kind, .int .i64 id, .slice A n c, .slice A' n' c']] w (RetStep11 p b S ⟨kind, id, lits, hints⟩ w) := step_c p b S ⟨kind, id, lits, hints⟩ A n c A' n' c' w hm hi hrl h h' hO
theorem out_new {w : World} {p b : Nat} {S : CSt} (h : CMem w p b S) : Out (ChF p b) (some ⟨w.heap.size, 0, none⟩) := fun ad e hF => by
  cases e
  have := h.blk.lt
  have := h.map.lt
  rcases hF with e | e
  · have : w.heap.size = p := e
    omega
  · have : w.heap.size = b := e
    omega
theorem stepNil_c (u : Array Value) (w : World) (hu : u = #[.int .i64 0, .int .i64 0, .slice none 0 0, .slice none 0 0]) : Calls Try.prog 11 #[.pointer none, .agg u] w fun e w' => e = .returned (.int .i64 1) ∧ Ext w w' := by
  subst hu
  go_enter Try.func11, Try.ntmps11
  go_wp2_with fail
  refine (madeNil_c _).mono ?_
  rintro e w1 ⟨rfl, rfl⟩
  go_wp2_with fail
  go_ret
  exact ⟨rfl, (Ext.refl _).alloc _⟩

def S10 : CSt := ⟨[(1, [1]), (2, [-1])], 2, false⟩
def S11 : CSt := ⟨[(2, [-1])], 2, false⟩
def S12 : CSt := ⟨[(2, [-1]), (3, [-1])], 3, false⟩
theorem awake_checks : checkL 1 bothL [⟨1, 3, [], [1, 2]⟩] = (1, 0) ∧ checkL 1 bothL [] = (0, 25) ∧ checkL 1 bothL [⟨1, 3, [], [1, 9]⟩] = (0, 20) ∧ (fCheckV 1 bothL).2 = 0 := by decide +kernel
theorem awake_steps : stepE S10 ⟨2, 0, [], [1]⟩ = 0 ∧ stepE S11 ⟨2, 0, [], [1]⟩ = 20 ∧ stepE S11 ⟨1, 3, [-1], []⟩ = 0 ∧ getR S12.rows 3 = some [-1] ∧ idsR S12.rows = [2, 3] := by decide +kernel
theorem S10_is : newS bothL = S10 := rfl
theorem S11_is : stepS S10 ⟨2, 0, [], [1]⟩ = S11 := by unfold stepS; rw [if_neg (by rw [awake_steps.1]; decide)]; rfl
theorem S11_stays : stepS S11 ⟨2, 0, [], [1]⟩ = S11 := by unfold stepS; rw [if_pos (by rw [awake_steps.2.1]; decide)]
theorem S12_is : stepS S11 ⟨1, 3, [-1], []⟩ = S12 := by unfold stepS; rw [if_neg (by rw [awake_steps.2.2.1]; decide)]; rfl
end Go.Proofs.Ytdgflniahoidmaa
