/- Layer 11's law: awake answers true, walked. -/
import Derived.Test.YtdgflniahoidmaaGreatLr19
import Derived.Test.YtdgflniahoidmaaGreatFew
set_option maxRecDepth 100000
namespace Go.Proofs.YtdgflniahoidmaaGreat
open Go.RowKit

def RetFew10 (w : World) (e : Ending) (w' : World) : Prop := (∃ r, e = .returned (.bool r)) ∧ w = w'
set_option maxHeartbeats 2000000 in
theorem few10_c (A : Option Addr) (n c : Nat) (l : List Stp) (w : World) (h : StepsL w A n l) :
    Calls Tryz.prog 19 #[.slice A n c] w (RetFew10 w) := by
  have hn := h.2.1
  have HS := Lib.hid h
  clear h
  by_cases hb : 200 < n
  · go_enter Tryz.func19, Tryz.ntmps19
    go_wp2
    go_ret
    exact ⟨⟨_, rfl⟩, rfl⟩
  · have hb2 : n ≤ 200 := by omega
    go_enter Tryz.func19, Tryz.ntmps19
    go_wp2
    go_loop [3] (fun i => ∃ k : Nat, k ≤ n ∧ i = .int .i64 k) (fun i => n - (intOf i).toNat)
    case atStart => exact ⟨0, Nat.zero_le _, rfl⟩
    case round =>
      obtain ⟨k, hk, rfl⟩ := hrel
      by_cases hlt : k < n
      · obtain ⟨ad, s, rfl, hs, A1, n1, c1, A2, n2, c2, hat, hi1, hi2⟩ := HS.out.at_ hlt
        obtain ⟨q0, q1, q2, q3⟩ := hat
        have hl1 := hi1.len
        have hl2 := hi2.len
        clear hi1 hi2 hs
        by_cases h1 : 60 < n1
        · go_wp2
          go_ret
          exact ⟨⟨_, rfl⟩, rfl⟩
        · by_cases h2 : 200 < n2
          · go_wp2
            go_ret
            exact ⟨⟨_, rfl⟩, rfl⟩
          · go_wp2
            go_round
            case rel => exact ⟨k + 1, by omega, by go_num⟩
            case measure => simp [intOf]; omega
      · go_wp2
        go_ret
        exact ⟨⟨_, rfl⟩, rfl⟩

def RetFew11 (n n' : Nat) (w : World) (e : Ending) (w' : World) : Prop := ∃ r, e = .returned (.bool r) ∧ (r = true → n ≤ 60 ∧ n' ≤ 60) ∧ Ext w w'
set_option maxHeartbeats 2000000 in
theorem few11_c (v : Int) (A : Option Addr) (n c : Nat) (L : List (List Int)) (A' : Option Addr) (n' c' : Nat) (l : List Stp) (w : World) (h : RowsSl w A n L) (h' : StepsL w A' n' l) :
    Calls Tryz.prog 4 #[.agg #[.int .i64 v, .slice A n c], .slice A' n' c'] w (RetFew11 n n' w) := by
  have hn := h.len
  have hn' := h'.2.1
  have HX0 := Lib.hid ((Ext.refl w).alloc (Obj.cells #[.int .i64 v, .slice A n c] 24))
  have HB0 := Lib.hid (Blk.new w 24 #[.int .i64 v, .slice A n c])
  have HS := Lib.hid h
  have HS' := Lib.hid h'
  clear h h'
  have b0 := HB0.out.cell 0
  have b1 := HB0.out.cell 1
  cases hf : fewV L with
  | false =>
    have HF := Lib.hid hf
    clear hf
    go_enter Tryz.func4, Tryz.ntmps4
    go_wp2_with fail
    refine (few04_c _ _ _ _ L _ (HS.out.ext HX0.out)).mono ?_
    rintro e w1 ⟨rfl, hx1⟩
    rw [HF.out]
    have HX1 := Lib.hid (HX0.out.trans hx1)
    clear hx1
    go_wp2_with fail
    go_ret
    exact ⟨false, rfl, fun e => (by cases e), HX1.out⟩
  | true =>
    have HF := Lib.hid hf
    clear hf
    by_cases h1 : n ≤ 60
    · go_enter Tryz.func4, Tryz.ntmps4
      go_wp2_with fail
      refine (few04_c _ _ _ _ L _ (HS.out.ext HX0.out)).mono ?_
      rintro e w1 ⟨rfl, hx1⟩
      rw [HF.out]
      have HX1 := Lib.hid (HX0.out.trans hx1)
      have c1 := (HB0.out.ext hx1).cell 1
      clear hx1 b0 b1
      go_wp2_with fail
      refine (few10_c _ _ _ l _ (HS'.out.ext HX1.out)).mono ?_
      rintro e w2 ⟨⟨r, rfl⟩, rfl⟩
      cases r
      · go_wp2_with fail
        go_ret
        exact ⟨false, rfl, fun e => (by cases e), HX1.out⟩
      · by_cases h2 : n' ≤ 60
        · go_wp2_with fail
          go_ret
          exact ⟨true, ret_bool (by first | (simp; done) | (simp; omega)), fun _ => ⟨h1, h2⟩, HX1.out⟩
        · go_wp2_with fail
          go_ret
          exact ⟨false, ret_bool (by first | (simp; done) | (simp; omega)), fun e => (by cases e), HX1.out⟩
    · go_enter Tryz.func4, Tryz.ntmps4
      go_wp2_with fail
      refine (few04_c _ _ _ _ L _ (HS.out.ext HX0.out)).mono ?_
      rintro e w1 ⟨rfl, hx1⟩
      rw [HF.out]
      have HX1 := Lib.hid (HX0.out.trans hx1)
      have c1 := (HB0.out.ext hx1).cell 1
      clear hx1 b0 b1
      go_wp2_with fail
      go_ret
      exact ⟨false, ret_bool (by first | (simp; done) | (simp; omega)), fun e => (by cases e), HX1.out⟩

/-- The two clauses of the law's own formula. -/
def bothL : List (List Int) := [[1], [-1]]
def RetBoth (w : World) (e : Ending) (w' : World) : Prop := ∃ A c, e = .returned (.agg #[.int .i64 1, .slice A 2 c]) ∧ RowsSl w' A 2 bothL ∧ Ext w w'
theorem both_c (w : World) : Calls Tryz.prog 20 #[] w (RetBoth w) := by
  have L1 := Lib.hid (intSl_newg #[.int .i64 1] 3 [1] 1 rfl rfl (by decide) (by decide))
  have L2 := Lib.hid (intSl_newg #[.int .i64 (-1)] 3 [-1] 1 rfl rfl (by decide) (by decide))
  go_enter Tryz.func20, Tryz.ntmps20
  go_wp2
  have hrow := rowsSl_newg (w := (((w.alloc (Obj.cells #[.int .i64 1, .slice (some ⟨w.heap.size + 1 + 1 + 1, 0, none⟩) 2 2] 24)).alloc (Obj.cells #[.int .i64 1] 3)).alloc (Obj.cells #[.int .i64 (-1)] 3))) (g := w.heap.size + 1 + 1 + 1) _ 42 bothL 2 rfl (by decide) (by simp) (RowVals.cons (c := 1) ((L1.out (w.alloc (Obj.cells #[.int .i64 1, .slice (some ⟨w.heap.size + 1 + 1 + 1, 0, none⟩) 2 2] 24)) (w.heap.size + 1) (by simp)).ext ((Ext.refl _).alloc _)) (RowVals.cons (c := 1) (L2.out ((w.alloc (Obj.cells #[.int .i64 1, .slice (some ⟨w.heap.size + 1 + 1 + 1, 0, none⟩) 2 2] 24)).alloc (Obj.cells #[.int .i64 1] 3)) (w.heap.size + 1 + 1) (by simp)) (RowVals.nil _)))
  have hb := (((Blk.new w 24 #[.int .i64 1, .slice (some ⟨w.heap.size + 1 + 1 + 1, 0, none⟩) 2 2]).alloc (Obj.cells #[.int .i64 1] 3)).alloc (Obj.cells #[.int .i64 (-1)] 3)).alloc (Obj.cells #[.slice (some ⟨w.heap.size + 1, 0, none⟩) 1 1, .slice (some ⟨w.heap.size + 1 + 1, 0, none⟩) 1 1] 42)
  have t0 := hb.cell 0
  have t1 := hb.cell 1
  refine bodyPost_ret (v := .agg #[.int .i64 1, .slice (some ⟨w.heap.size + 1 + 1 + 1, 0, none⟩) 2 2]) (by simp [results, Tryz.results20, go_sem, t0, t1]) rfl ⟨_, _, rfl, hrow, by (repeat (first | with_reducible exact Ext.refl _ | with_reducible apply Ext.alloc | with_reducible apply Ext.drew | with_reducible apply Ext.drewN | (apply Ext.trans'; assumption)))⟩

/-! ### One step, laid by the law itself -/
theorem steps_new {w : World} {g : Nat} {z : Stp} {A : Option Addr} {n c : Nat} {A' : Option Addr} {n' c' : Nat} (hg : w.heap.size = g) (h : IntSl w A n z.lits) (h' : IntSl w A' n' z.hints) :
    StepsL (w.alloc (.cells #[.int .i64 z.kind, .int .i64 z.id, .slice A n c, .slice A' n' c'] 44)) (some ⟨g, 0, none⟩) 1 [z] := by
  subst hg
  have hx := (Ext.refl w).alloc (.cells #[.int .i64 z.kind, .int .i64 z.id, .slice A n c, .slice A' n' c'] 44)
  have hb := Blk.new w 44 #[.int .i64 z.kind, .int .i64 z.id, .slice A n c, .slice A' n' c']
  refine ⟨rfl, by decide, fun _ => ⟨_, rfl, fun i s hs => ?_⟩⟩
  have hi : i = 0 := by have := (List.getElem?_eq_some_iff.1 hs).1; simp at this; omega
  subst hi
  simp at hs
  subst hs
  exact ⟨A, n, c, A', n', c', ⟨hb.cell 0, hb.cell 1, hb.cell 2, hb.cell 3⟩, h.ext hx, h'.ext hx⟩
theorem steps_nil (w : World) : StepsL w none 0 [] := ⟨rfl, by decide, fun h => absurd h (by omega)⟩
end Go.Proofs.YtdgflniahoidmaaGreat

namespace Go.Proofs.YtdgflniahoidmaaGreat
open Go.RowKit

theorem steps1 (kind id : Int) (lits hints : List Int) {w : World} {g : Nat} {A : Option Addr} {n c : Nat} {A' : Option Addr} {n' c' : Nat} (hg : w.heap.size = g) (h : IntSl w A n lits) (h' : IntSl w A' n' hints) :
    StepsL (w.alloc (.cells #[.int .i64 kind, .int .i64 id, .slice A n c, .slice A' n' c'] 44)) (some ⟨g, 0, none⟩) 1 [⟨kind, id, lits, hints⟩] := steps_new (z := ⟨kind, id, lits, hints⟩) hg h h'
theorem step1_c (p b : Nat) (S : CSt) (kind id : Int) (lits hints : List Int) (A : Option Addr) (n c : Nat) (A' : Option Addr) (n' c' : Nat) (w : World) (hm : CMem w p b S) (hi : Inv11 S) (hrl : S.rows.length ≤ 100000) (h : IntSl w A n lits) (h' : IntSl w A' n' hints) (hO : 0 < n' → Out (ChF p b) A') :
    Calls Tryz.prog 10 #[.pointer (some ⟨p, 0, none⟩), .agg #[.int .i64 kind, .int .i64 id, .slice A n c, .slice A' n' c']] w (RetStep11 p b S ⟨kind, id, lits, hints⟩ w) := step_c p b S ⟨kind, id, lits, hints⟩ A n c A' n' c' w hm hi hrl h h' hO
theorem out_new {w : World} {p b : Nat} {S : CSt} (h : CMem w p b S) : Out (ChF p b) (some ⟨w.heap.size, 0, none⟩) := fun ad e hF => by
  cases e
  have := h.blk.lt
  have := h.map.lt
  rcases hF with e | e
  · have : w.heap.size = p := e
    omega
  · have : w.heap.size = b := e
    omega
theorem stepNil_c (u : Array Value) (w : World) (hu : u = #[.int .i64 0, .int .i64 0, .slice none 0 0, .slice none 0 0]) : Calls Tryz.prog 10 #[.pointer none, .agg u] w fun e w' => e = .returned (.int .i64 1) ∧ Ext w w' := by
  subst hu
  go_enter Tryz.func10, Tryz.ntmps10
  go_wp2_with fail
  refine (madeNil_c _).mono ?_
  rintro e w1 ⟨rfl, rfl⟩
  go_wp2_with fail
  go_ret
  exact ⟨rfl, (Ext.refl _).alloc _⟩

def S10 : CSt := ⟨[(1, [1]), (2, [-1])], 2, false⟩
def S11 : CSt := ⟨[(2, [-1])], 2, false⟩
def S12 : CSt := ⟨[(2, [-1]), (3, [-1])], 3, false⟩
theorem awake_checks : checkL 1 bothL [⟨1, 3, [], [1, 2]⟩] = (1, 0) ∧ checkL 1 bothL [] = (0, 25) ∧ checkL 1 bothL [⟨1, 3, [], [1, 9]⟩] = (0, 20) ∧ (fCheckV 1 bothL).2 = 0 := by decide +kernel
theorem awake_steps : stepE S10 ⟨2, 0, [], [1]⟩ = 0 ∧ stepE S11 ⟨2, 0, [], [1]⟩ = 20 ∧ stepE S11 ⟨1, 3, [-1], []⟩ = 0 ∧ getR S12.rows 3 = some [-1] ∧ idsR S12.rows = [2, 3] := by decide +kernel
theorem S10_is : newS bothL = S10 := rfl
theorem S11_is : stepS S10 ⟨2, 0, [], [1]⟩ = S11 := by unfold stepS; rw [if_neg (by rw [awake_steps.1]; decide)]; rfl
theorem S11_stays : stepS S11 ⟨2, 0, [], [1]⟩ = S11 := by unfold stepS; rw [if_pos (by rw [awake_steps.2.1]; decide)]
theorem S12_is : stepS S11 ⟨1, 3, [-1], []⟩ = S12 := by unfold stepS; rw [if_neg (by rw [awake_steps.2.2.1]; decide)]; rfl
end Go.Proofs.YtdgflniahoidmaaGreat

namespace Go.Proofs.YtdgflniahoidmaaGreat
open Go.RowKit

set_option maxRecDepth 100000 in
set_option maxHeartbeats 8000000 in
theorem awake11_c (w : World) : Calls Tryz.prog 5 #[] w fun e w' => e = .returned (.bool true) ∧ Ext w w' := by
  have L12 := Lib.hid (intSl_newg #[.int .i64 1, .int .i64 2] 3 [1, 2] 2 rfl rfl (by decide) (by decide))
  have L19 := Lib.hid (intSl_newg #[.int .i64 1, .int .i64 9] 3 [1, 9] 2 rfl rfl (by decide) (by decide))
  have L1 := Lib.hid (intSl_newg #[.int .i64 1] 3 [1] 1 rfl rfl (by decide) (by decide))
  have Lm := Lib.hid (intSl_newg #[.int .i64 (-1)] 3 [-1] 1 rfl rfl (by decide) (by decide))
  have L23 := Lib.hid (intSl_newg #[.int .i64 2, .int .i64 3] 3 [2, 3] 2 rfl rfl (by decide) (by decide))
  have K1 := Lib.hid awake_checks
  have K2 := Lib.hid awake_steps
  go_enter Tryz.func5, Tryz.ntmps5
  go_wp2_with fail
  refine (both_c _).mono ?_
  rintro e w1 ⟨A1, c1, rfl, hr1, hx1⟩
  have HR1 := Lib.hid hr1
  have HX1 := Lib.hid hx1
  clear hr1 hx1
  go_wp2_with fail
  refine (check_c 1 _ _ _ bothL _ _ _ [⟨1, 3, [], [1, 2]⟩] _ (HR1.out.ext (((Ext.refl w1).alloc _).alloc _)) (steps1 1 3 [] [1, 2] (by simp) (IntSl.nil _) (L12.out w1 _ rfl)) (by decide) (by decide)).mono ?_
  rintro e w2 ⟨rfl, hx2⟩
  rw [K1.out.1]
  have HX2 := Lib.hid (((HX1.out.alloc _).alloc _).trans hx2)
  clear hx2 HR1
  go_wp2_with fail
  refine (both_c _).mono ?_
  rintro e w3 ⟨A3, c3, rfl, hr3, hx3⟩
  have HR3 := Lib.hid hr3
  have HX3 := Lib.hid (HX2.out.trans hx3)
  clear hr3 hx3
  go_wp2_with fail
  refine (check_c 1 _ _ _ bothL _ _ _ [] _ HR3.out (steps_nil _) (by decide) (by decide)).mono ?_
  rintro e w4 ⟨rfl, hx4⟩
  rw [K1.out.2.1]
  have HX4 := Lib.hid (HX3.out.trans hx4)
  clear hx4 HR3
  go_wp2_with fail
  refine (both_c _).mono ?_
  rintro e w5 ⟨A5, c5, rfl, hr5, hx5⟩
  have HR5 := Lib.hid hr5
  have HX5 := Lib.hid (HX4.out.trans hx5)
  clear hr5 hx5
  go_wp2_with fail
  refine (check_c 1 _ _ _ bothL _ _ _ [⟨1, 3, [], [1, 9]⟩] _ (HR5.out.ext (((Ext.refl w5).alloc _).alloc _)) (steps1 1 3 [] [1, 9] (by simp) (IntSl.nil _) (L19.out w5 _ rfl)) (by decide) (by decide)).mono ?_
  rintro e w6 ⟨rfl, hx6⟩
  rw [K1.out.2.2.1]
  have HX6 := Lib.hid (((HX5.out.alloc _).alloc _).trans hx6)
  clear hx6 HR5
  go_wp2_with fail
  refine (both_c _).mono ?_
  rintro e w7 ⟨A7, c7, rfl, hr7, hx7⟩
  have HR7 := Lib.hid hr7
  have HX7 := Lib.hid (HX6.out.trans hx7)
  clear hr7 hx7
  go_wp2_with fail
  refine (new_c 1 _ _ _ bothL _ HR7.out (by decide)).mono ?_
  intro e w8 hret
  unfold RetNew at hret
  rw [K1.out.2.2.2, if_neg (by decide), S10_is] at hret
  obtain ⟨p, b, rfl, hm8, hp8, hb8, hx8⟩ := hret
  have HM8 := Lib.hid hm8
  have HX8 := Lib.hid (HX7.out.trans hx8)
  have HPB : Hid (w.heap.size ≤ p ∧ w.heap.size ≤ b) := by have := HX7.out.size_le; exact ⟨by omega, by omega⟩
  have HF : Hid (∀ j, ChF p b j → w.heap.size ≤ j) := fun j e => by have := HPB.out; rcases e with e | e <;> subst e <;> omega
  have I0 : Hid (Inv11 S10) := by unfold Hid; rw [← S10_is]; exact newS_inv K1.out.2.2.2 (by decide)
  have I1 : Hid (Inv11 S11) := by unfold Hid; rw [← S11_is]; exact I0.out.step _
  have I2 : Hid (Inv11 S12) := by unfold Hid; rw [← S12_is]; exact I1.out.step _
  clear hm8 hx8 HR7 hp8 hb8
  go_wp2_with fail
  refine (step1_c p b S10 2 0 [] [1] _ _ _ _ _ _ _ (HM8.out.ext ((Ext.refl _).alloc _)) I0.out (by decide) (IntSl.nil _) (L1.out w8 _ rfl) (fun _ => out_new HM8.out)).mono ?_
  rintro e w9 ⟨rfl, hm9, hst9⟩
  rw [S11_is] at hm9
  rw [K2.out.1]
  have HM9 := Lib.hid hm9
  have HX9 : Hid (Ext w w9) := (HX8.out.alloc _).then_stay hst9 HF.out
  clear hm9 hst9 HM8
  go_wp2_with fail
  refine (step1_c p b S11 2 0 [] [1] _ _ _ _ _ _ _ (HM9.out.ext ((Ext.refl _).alloc _)) I1.out (by decide) (IntSl.nil _) (L1.out w9 _ rfl) (fun _ => out_new HM9.out)).mono ?_
  rintro e w10 ⟨rfl, hm10, hst10⟩
  rw [S11_stays] at hm10
  rw [K2.out.2.1]
  have HM10 := Lib.hid hm10
  have HX10 : Hid (Ext w w10) := (HX9.out.alloc _).then_stay hst10 HF.out
  clear hm10 hst10 HM9
  go_wp2_with fail
  refine (step1_c p b S11 1 3 [-1] [] _ _ _ _ _ _ _ (HM10.out.ext ((Ext.refl _).alloc _)) I1.out (by decide) (Lm.out w10 _ rfl) (IntSl.nil _) (fun h => absurd h (by decide))).mono ?_
  rintro e w11 ⟨rfl, hm11, hst11⟩
  rw [S12_is] at hm11
  rw [K2.out.2.2.1]
  have HM11 := Lib.hid hm11
  have HX11 : Hid (Ext w w11) := (HX10.out.alloc _).then_stay hst11 HF.out
  clear hm11 hst11 HM10
  go_wp2_with fail
  refine (Clause_c _ p b S12 HM11.out I2.out 3 (by decide)).mono ?_
  rintro e w12 ⟨v12, rfl, hv12, hx12⟩
  rw [K2.out.2.2.2.1] at hv12 ⊢
  obtain ⟨A12, n12, c12, rfl, hs12, _⟩ := hv12.slc (by decide) (by decide)
  have HS12 := Lib.hid hs12
  have HM12 := Lib.hid (HM11.out.ext hx12)
  have HX12 := Lib.hid (HX11.out.trans hx12)
  clear hv12 hs12 hx12 HM11
  go_wp2_with fail
  refine (same_c _ _ _ [-1] _ _ _ [-1] _ (HS12.out.ext ((Ext.refl _).alloc _)) (Lm.out w12 _ rfl)).mono ?_
  rintro e w13 ⟨rfl, hx13⟩
  rw [show sameV [-1] [-1] = true from rfl]
  have HM13 := Lib.hid (HM12.out.ext (((Ext.refl _).alloc _).trans hx13))
  have HX13 := Lib.hid ((HX12.out.alloc _).trans hx13)
  clear hx13 HM12
  go_wp2_with fail
  refine (ids_c _ p b S12 HM13.out I2.out).mono ?_
  rintro e w14 ⟨v14, rfl, hv14, hx14⟩
  rw [K2.out.2.2.2.2] at hv14
  obtain ⟨A14, n14, c14, rfl, hs14, _⟩ := hv14.slc (by decide) (by decide)
  have HS14 := Lib.hid hs14
  have HM14 := Lib.hid (HM13.out.ext hx14)
  have HX14 := Lib.hid (HX13.out.trans hx14)
  clear hv14 hs14 hx14 HM13
  go_wp2_with fail
  refine (same_c _ _ _ [2, 3] _ _ _ [2, 3] _ (HS14.out.ext ((Ext.refl _).alloc _)) (L23.out w14 _ rfl)).mono ?_
  rintro e w15 ⟨rfl, hx15⟩
  rw [show sameV [2, 3] [2, 3] = true from rfl]
  have HM15 := Lib.hid (HM14.out.ext (((Ext.refl _).alloc _).trans hx15))
  have HX15 := Lib.hid ((HX14.out.alloc _).trans hx15)
  clear hx15 HM14
  go_wp2_with fail
  refine (done_c _ p b S12 HM15.out).mono ?_
  rintro e w16 ⟨rfl, rfl⟩
  rw [show S12.done = false from rfl]
  go_wp2_with fail
  refine (stepNil_c _ _ rfl).mono ?_
  rintro e w17 ⟨rfl, hx17⟩
  have HX17 := Lib.hid (HX15.out.trans hx17)
  clear hx17
  go_wp2_with fail
  refine (doneNil_c _).mono ?_
  rintro e w18 ⟨rfl, rfl⟩
  go_wp2_with fail
  go_ret
  exact ⟨ret_bool (by rfl), HX17.out⟩
end Go.Proofs.YtdgflniahoidmaaGreat
