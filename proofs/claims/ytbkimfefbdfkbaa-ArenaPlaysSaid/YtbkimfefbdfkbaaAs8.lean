/- Layer 12 (arena): the law's reference, refDo. -/
import Derived.Test.YtbkimfefbdfkbaaAs7
set_option maxRecDepth 100000
namespace Go.Proofs.Ytbkimfefbdfkbaa
open Go.RowKit

theorem rPut_c (F : Nat → Prop) (w : World) (v : Value) (S : ASt) (id : Int) (A : Option Addr) (n c : Nat) (lits : List Int) (b : Bool) (h : RefR F w 0 v S.rows) (hF : ∀ k, F k → k < w.heap.size) (hsm : S.rows.length ≤ 1000000) (hs0 : 0 ≤ S.size) (hs1 : S.size ≤ 2000000000) (hl : IntSl w A n lits) (hnc : n ≤ c) (hn : n ≤ 1000) :
    Calls Try.prog 58 #[.agg #[v, .int .i64 S.size], .int .i64 id, .slice A n c, .bool b] w (RetR F (putS S id lits b) [.int .i64 (putAt S id lits), .int .i64 (putE id lits)] w) := by
  by_cases hE : putE id lits = 0
  · exact rPutGood_c F w v S id A n c lits b h hF hsm hs0 hs1 hl hnc hn hE
  · exact rPutBad_c F w v S id A n c lits b h hl hnc hE
theorem rSwap_c (F : Nat → Prop) (w : World) (v : Value) (S : ASt) (x i1 i2 : Int) (h : RefR F w 0 v S.rows) (hF : ∀ b, F b → b < w.heap.size) (hsm : S.rows.length ≤ 1000000) (hI : AInv S) :
    Calls Try.prog 59 #[.agg #[v, .int .i64 S.size], .int .i64 x, .int .i64 i1, .int .i64 i2] w (RetR F (swapS S x i1 i2) [.int .i64 (swapE S x i1 i2)] w) := by
  by_cases hE : swapE S x i1 i2 = 0
  · exact rSwapGood_c F w v S x i1 i2 h hF hsm hI hE
  · exact rSwapBad_c F w v S x i1 i2 h hsm hI hE
theorem refR_set4 {F : Nat → Prop} {w : World} {b g1 g2 : Nat} {v : Value} {R : List ARow} {c1 c2 : Array Value} (h : RefR F w b v R) (h1 : Blk w g1 58 c1) (h2 : Blk w g2 58 c2) (hne : g2 ≠ g1) (x0 x1 y0 y1 : Value) :
    RefR F ((((w.setCell ⟨g1, 0, none⟩ x0).setCell ⟨g1, 1, none⟩ x1).setCell ⟨g2, 0, none⟩ y0).setCell ⟨g2, 1, none⟩ y1) b v R := by
  have a1 := h1.set_ 0 x0
  have b1 := h2.far (p := ⟨g1, 0, none⟩) hne x0
  have b2 := b1.far (p := ⟨g1, 1, none⟩) hne x1
  exact RefR.setCell (RefR.setCell (RefR.setCell (RefR.setCell h h1 (by decide) (by decide) 0 x0) a1 (by decide) (by decide) 1 x1) b2 (by decide) (by decide) 0 y0) (b2.set_ 0 y0) (by decide) (by decide) 1 y1
theorem ownI_set4 {w : World} {b g1 g2 : Nat} {v : Value} {xs : List Int} {c1 c2 : Array Value} (h : OwnI w b v xs) (h1 : Blk w g1 58 c1) (h2 : Blk w g2 58 c2) (x0 x1 y0 y1 : Value) :
    OwnI ((((w.setCell ⟨g1, 0, none⟩ x0).setCell ⟨g1, 1, none⟩ x1).setCell ⟨g2, 0, none⟩ y0).setCell ⟨g2, 1, none⟩ y1) b v xs := by
  have n1 := h.ne_blk h1 (by decide)
  have n2 := h.ne_blk h2 (by decide)
  exact (((h.setCell (p := ⟨g1, 0, none⟩) (fun k hk e => n1 (by rw [hk, e])) x0).setCell (p := ⟨g1, 1, none⟩) (fun k hk e => n1 (by rw [hk, e])) x1).setCell (p := ⟨g2, 0, none⟩) (fun k hk e => n2 (by rw [hk, e])) y0).setCell (p := ⟨g2, 1, none⟩) (fun k hk e => n2 (by rw [hk, e])) y1

/-- What 'refDo' hands back. -/
def RetRefDo12 (F : Nat → Prop) (S : ASt) (a : ActA) (w : World) (e : Ending) (w' : World) : Prop :=
  ∃ A n c v, e = .returned (.tuple #[.agg #[.slice A n c, .int .i64 (doS12 S a).size], .int .i64 (doP12 S a), .int .i64 (doE12 S a), v]) ∧ RefR F w' 0 (.slice A n c) (doS12 S a).rows ∧ OwnI w' w.heap.size v (doL12 S a) ∧ Ext w w'

set_option maxRecDepth 100000 in
set_option maxHeartbeats 8000000 in
theorem refDo12_c (F : Nat → Prop) (w : World) (v : Value) (S : ASt) (a : ActA) (A : Option Addr) (n c : Nat) (h : RefR F w 0 v S.rows) (hF : ∀ k, F k → k < w.heap.size) (hsm : S.rows.length ≤ 1000000) (hI : AInv S) (hfl : (flatA S.rows).length ≤ 1003000000) (hl : IntSl w A n a.lits) (hnc : n ≤ c) (hn : n ≤ 1000) :
    Calls Try.prog 27 #[.agg #[v, .int .i64 S.size], .agg #[.int .i64 a.kind, .int .i64 a.num, .int .i64 a.i1, .int .i64 a.i2, .slice A n c, .bool a.learnt]] w (RetRefDo12 F S a w) := by
  obtain ⟨kind, num, i1, i2, lits, learnt⟩ := a
  dsimp only at hl ⊢
  obtain ⟨A0, c0, rfl, hc⟩ := RefR.len h
  have hs0 : 0 ≤ S.size := by rw [hI.size]; omega
  have hs1 : S.size ≤ 2000000000 := by rw [hI.size]; omega
  have hX := (((Ext.refl w).alloc (Obj.cells #[.slice A0 S.rows.length c0, .int .i64 S.size] 58)).alloc (Obj.cells #[.int .i64 kind, .int .i64 num, .int .i64 i1, .int .i64 i2, .slice A n c, .bool learnt] 62)).alloc (Obj.cells #[.slice none 0 0, .int .i64 0] 58)
  have HR := Lib.hid (h.ext hX)
  have HFX := Lib.hid (fun k hk => Nat.lt_of_lt_of_le (hF k hk) hX.size_le)
  have HX := Lib.hid hX
  have HL := Lib.hid (hl.ext hX)
  have HI := Lib.hid hI
  have B0 := Lib.hid (((Blk.new w 58 #[.slice A0 S.rows.length c0, .int .i64 S.size]).alloc (Obj.cells #[.int .i64 kind, .int .i64 num, .int .i64 i1, .int .i64 i2, .slice A n c, .bool learnt] 62)).alloc (Obj.cells #[.slice none 0 0, .int .i64 0] 58))
  have B2 := Lib.hid (Blk.new3K w (Obj.cells #[.slice A0 S.rows.length c0, .int .i64 S.size] 58) (Obj.cells #[.int .i64 kind, .int .i64 num, .int .i64 i1, .int .i64 i2, .slice A n c, .bool learnt] 62) 58 #[.slice none 0 0, .int .i64 0])
  have HH := Lib.hid h
  clear hX h hl hI hF
  by_cases k0 : kind = 0
  · subst k0
    go_enter Try.func27, Try.ntmps27
    go_wp2_with fail
    refine (rPut_c F _ _ S num A n c lits learnt HR.out HFX.out hsm hs0 hs1 HL.out hnc hn).mono ?_
    rintro e w1 ⟨sv, rfl, hr1, hx1⟩
    obtain ⟨A1, c1, rfl, _⟩ := RefR.len hr1
    have hb0 := B0.out.ext hx1
    have a0 := hb0.cell 0
    have a1 := hb0.cell 1
    have f0 := hb0.frozen 0
    have f1 := hb0.frozen 1
    have hb2 := B2.out.ext hx1
    have g0 := hb2.cell 0
    have g1 := hb2.cell 1
    have p0 := hb2.frozen 0
    have p1 := hb2.frozen 1
    have HB0 := Lib.hid hb0
    have HB2 := Lib.hid hb2
    have HR1 := Lib.hid hr1
    have HX1 := Lib.hid hx1
    clear hr1 hx1 hb0 hb2
    go_wp2
    refine bodyPost_ret (v := .tuple #[.agg #[.slice A1 (putS S num lits learnt).rows.length c1, .int .i64 (putS S num lits learnt).size], .int .i64 (putAt S num lits), .int .i64 (putE num lits), .slice none 0 0]) (by simp [results, Try.results27, go_sem, *]) rfl ?_
    have hS : doS12 S ⟨0, num, i1, i2, lits, learnt⟩ = (putS S num lits learnt) := by simp [doS12]
    have hP : doP12 S ⟨0, num, i1, i2, lits, learnt⟩ = (putAt S num lits) := by simp [doP12]
    have hE : doE12 S ⟨0, num, i1, i2, lits, learnt⟩ = (putE num lits) := by simp [doE12]
    have hL : doL12 S ⟨0, num, i1, i2, lits, learnt⟩ = [] := by simp [doL12]
    refine ⟨A1, _, c1, .slice none 0 0, by rw [hS, hP, hE], ?_, ?_, ?_⟩
    · rw [hS]
      exact refR_set4 HR1.out HB0.out HB2.out (by omega) _ _ _ _
    · rw [hL]
      exact OwnI.nil _ _
    · repeat refine Ext.setCell ?_ (by simp <;> omega) _
      exact HX.out.trans HX1.out
  · have kb0 : (kind == 0) = false := by simpa using k0
    have K0 := Lib.hid k0
    clear k0
    by_cases k1 : kind = 1
    · subst k1
      go_enter Try.func27, Try.ntmps27
      go_wp2_with fail
      refine (rSwap_c F _ _ S num i1 i2 HR.out HFX.out hsm HI.out).mono ?_
      rintro e w1 ⟨sv, rfl, hr1, hx1⟩
      obtain ⟨A1, c1, rfl, _⟩ := RefR.len hr1
      have hb0 := B0.out.ext hx1
      have a0 := hb0.cell 0
      have a1 := hb0.cell 1
      have f0 := hb0.frozen 0
      have f1 := hb0.frozen 1
      have hb2 := B2.out.ext hx1
      have g0 := hb2.cell 0
      have g1 := hb2.cell 1
      have p0 := hb2.frozen 0
      have p1 := hb2.frozen 1
      have HB0 := Lib.hid hb0
      have HB2 := Lib.hid hb2
      have HR1 := Lib.hid hr1
      have HX1 := Lib.hid hx1
      clear hr1 hx1 hb0 hb2
      go_wp2
      refine bodyPost_ret (v := .tuple #[.agg #[.slice A1 (swapS S num i1 i2).rows.length c1, .int .i64 (swapS S num i1 i2).size], .int .i64 0, .int .i64 (swapE S num i1 i2), .slice none 0 0]) (by simp [results, Try.results27, go_sem, *]) rfl ?_
      have hS : doS12 S ⟨1, num, i1, i2, lits, learnt⟩ = (swapS S num i1 i2) := by simp [doS12]
      have hP : doP12 S ⟨1, num, i1, i2, lits, learnt⟩ = 0 := by simp [doP12]
      have hE : doE12 S ⟨1, num, i1, i2, lits, learnt⟩ = (swapE S num i1 i2) := by simp [doE12]
      have hL : doL12 S ⟨1, num, i1, i2, lits, learnt⟩ = [] := by simp [doL12]
      refine ⟨A1, _, c1, .slice none 0 0, by rw [hS, hP, hE], ?_, ?_, ?_⟩
      · rw [hS]
        exact refR_set4 HR1.out HB0.out HB2.out (by omega) _ _ _ _
      · rw [hL]
        exact OwnI.nil _ _
      · repeat refine Ext.setCell ?_ (by simp <;> omega) _
        exact HX.out.trans HX1.out
    · have kb1 : (kind == 1) = false := by simpa using k1
      have K1 := Lib.hid k1
      clear k1
      by_cases k2 : kind = 2
      · subst k2
        go_enter Try.func27, Try.ntmps27
        go_wp2_with fail
        refine (rDrop_c F _ _ S num HR.out HFX.out hsm).mono ?_
        rintro e w1 ⟨sv, rfl, hr1, hx1⟩
        obtain ⟨A1, c1, rfl, _⟩ := RefR.len hr1
        have hb0 := B0.out.ext hx1
        have a0 := hb0.cell 0
        have a1 := hb0.cell 1
        have f0 := hb0.frozen 0
        have f1 := hb0.frozen 1
        have hb2 := B2.out.ext hx1
        have g0 := hb2.cell 0
        have g1 := hb2.cell 1
        have p0 := hb2.frozen 0
        have p1 := hb2.frozen 1
        have HB0 := Lib.hid hb0
        have HB2 := Lib.hid hb2
        have HR1 := Lib.hid hr1
        have HX1 := Lib.hid hx1
        clear hr1 hx1 hb0 hb2
        go_wp2
        refine bodyPost_ret (v := .tuple #[.agg #[.slice A1 (dropS S num).rows.length c1, .int .i64 (dropS S num).size], .int .i64 0, .int .i64 (dropE S num), .slice none 0 0]) (by simp [results, Try.results27, go_sem, *]) rfl ?_
        have hS : doS12 S ⟨2, num, i1, i2, lits, learnt⟩ = (dropS S num) := by simp [doS12]
        have hP : doP12 S ⟨2, num, i1, i2, lits, learnt⟩ = 0 := by simp [doP12]
        have hE : doE12 S ⟨2, num, i1, i2, lits, learnt⟩ = (dropE S num) := by simp [doE12]
        have hL : doL12 S ⟨2, num, i1, i2, lits, learnt⟩ = [] := by simp [doL12]
        refine ⟨A1, _, c1, .slice none 0 0, by rw [hS, hP, hE], ?_, ?_, ?_⟩
        · rw [hS]
          exact refR_set4 HR1.out HB0.out HB2.out (by omega) _ _ _ _
        · rw [hL]
          exact OwnI.nil _ _
        · repeat refine Ext.setCell ?_ (by simp <;> omega) _
          exact HX.out.trans HX1.out
      · have kb2 : (kind == 2) = false := by simpa using k2
        have K2 := Lib.hid k2
        clear k2
        by_cases k3 : kind = 3
        · subst k3
          go_enter Try.func27, Try.ntmps27
          go_wp2_with fail
          refine (rCompact_c F _ _ S HR.out HFX.out hsm HI.out hfl).mono ?_
          rintro e w1 ⟨A1, n1, c1, v1, rfl, hr1, ho1, hx1⟩
          obtain ⟨A1x, c1x, e1, _⟩ := RefR.len hr1
          injection e1 with e1 e2 e3
          subst e1 e2 e3
          have hb0 := B0.out.ext hx1
          have a0 := hb0.cell 0
          have a1 := hb0.cell 1
          have f0 := hb0.frozen 0
          have f1 := hb0.frozen 1
          have hb2 := B2.out.ext hx1
          have g0 := hb2.cell 0
          have g1 := hb2.cell 1
          have p0 := hb2.frozen 0
          have p1 := hb2.frozen 1
          have HB0 := Lib.hid hb0
          have HB2 := Lib.hid hb2
          have HR1 := Lib.hid hr1
          have HX1 := Lib.hid hx1
          obtain ⟨Aw, nw, cw, rfl⟩ := ho1.form
          have HO1 := Lib.hid ho1
          clear ho1
          clear hr1 hx1 hb0 hb2
          go_wp2
          refine bodyPost_ret (v := .tuple #[.agg #[.slice A1 (compS S).rows.length c1, .int .i64 (compS S).size], .int .i64 0, .int .i64 0, .slice Aw nw cw]) (by simp [results, Try.results27, go_sem, *]) rfl ?_
          have hS : doS12 S ⟨3, num, i1, i2, lits, learnt⟩ = (compS S) := by simp [doS12]
          have hP : doP12 S ⟨3, num, i1, i2, lits, learnt⟩ = 0 := by simp [doP12]
          have hE : doE12 S ⟨3, num, i1, i2, lits, learnt⟩ = 0 := by simp [doE12]
          have hL : doL12 S ⟨3, num, i1, i2, lits, learnt⟩ = (allA S.rows) := by simp [doL12]
          refine ⟨A1, _, c1, .slice Aw nw cw, by rw [hS, hP, hE], ?_, ?_, ?_⟩
          · rw [hS]
            exact refR_set4 HR1.out HB0.out HB2.out (by omega) _ _ _ _
          · rw [hL]
            exact ownI_set4 (HO1.out.less HX.out.size_le) HB0.out HB2.out _ _ _ _
          · repeat refine Ext.setCell ?_ (by simp <;> omega) _
            exact HX.out.trans HX1.out
        · have kb3 : (kind == 3) = false := by simpa using k3
          have K3 := Lib.hid k3
          clear k3
          go_enter Try.func27, Try.ntmps27
          have hb0 := B0.out
          have a0 := hb0.cell 0
          have a1 := hb0.cell 1
          have hb2 := B2.out
          have g0 := hb2.cell 0
          have g1 := hb2.cell 1
          have p0 := hb2.frozen 0
          have p1 := hb2.frozen 1
          clear hb0 hb2
          go_wp2
          refine bodyPost_ret (v := .tuple #[.agg #[.slice A0 S.rows.length c0, .int .i64 S.size], .int .i64 0, .int .i64 0, .slice none 0 0]) (by simp [results, Try.results27, go_sem, *]) rfl ?_
          have hS : doS12 S ⟨kind, num, i1, i2, lits, learnt⟩ = S := by simp [doS12, K0.out, K1.out, K2.out, K3.out]
          have hP : doP12 S ⟨kind, num, i1, i2, lits, learnt⟩ = 0 := by simp [doP12, K0.out]
          have hE : doE12 S ⟨kind, num, i1, i2, lits, learnt⟩ = 0 := by simp [doE12, K0.out, K1.out, K2.out]
          have hL : doL12 S ⟨kind, num, i1, i2, lits, learnt⟩ = [] := by simp [doL12, K3.out]
          have key : ∀ w', Ext w w' → RetRefDo12 F S ⟨kind, num, i1, i2, lits, learnt⟩ w (.returned (.tuple #[.agg #[.slice A0 S.rows.length c0, .int .i64 S.size], .int .i64 0, .int .i64 0, .slice none 0 0])) w' := fun w' hx => ⟨A0, _, c0, .slice none 0 0, by rw [hS, hP, hE], by rw [hS]; exact HH.out.ext hx, by rw [hL]; exact OwnI.nil _ _, hx⟩
          refine key _ ?_
          repeat (first | refine Ext.setCell ?_ (by simp <;> omega) _ | refine Ext.alloc ?_ _)
          exact Ext.refl _
end Go.Proofs.Ytbkimfefbdfkbaa
