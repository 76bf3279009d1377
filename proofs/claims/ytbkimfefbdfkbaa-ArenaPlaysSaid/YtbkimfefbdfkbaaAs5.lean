/- Layer 12 (arena): the reference's Swap. -/
import Derived.Test.YtbkimfefbdfkbaaAs4
import Derived.BigRegion
set_option maxRecDepth 100000
namespace Go.Proofs.Ytbkimfefbdfkbaa
open Go.RowKit

set_option maxRecDepth 100000 in
set_option maxHeartbeats 4000000 in
theorem rSwapBad_c (F : Nat → Prop) (w : World) (v : Value) (S : ASt) (x i1 i2 : Int) (h : RefR F w 0 v S.rows) (hsm : S.rows.length ≤ 1000000) (hI : AInv S) (hE : swapE S x i1 i2 ≠ 0) :
    Calls Try.prog 59 #[.agg #[v, .int .i64 S.size], .int .i64 x, .int .i64 i1, .int .i64 i2] w (RetR F (swapS S x i1 i2) [.int .i64 (swapE S x i1 i2)] w) := by
  obtain ⟨A0, c0, rfl, hc⟩ := RefR.len h
  have HX := Lib.hid (((Ext.refl w).alloc (Obj.cells #[.slice A0 S.rows.length c0, .int .i64 S.size] 58)).alloc (Obj.cells #[.slice none 0 0, .int .i64 0] 58))
  have HB0 := Lib.hid ((Blk.new w 58 #[.slice A0 S.rows.length c0, .int .i64 S.size]).alloc (Obj.cells #[.slice none 0 0, .int .i64 0] 58))
  have HB1 := Lib.hid (Blk.new2K w (Obj.cells #[.slice A0 S.rows.length c0, .int .i64 S.size] 58) 58 #[.slice none 0 0, .int .i64 0])
  have hS : swapS S x i1 i2 = S := by unfold swapS; rw [if_neg hE]
  rw [hS]
  clear hS
  cases hr : S.rows.find? (atP x) with
  | none =>
    have hE : swapE S x i1 i2 = 20 := by unfold swapE; rw [hr]
    have HF := Lib.hid (findA_none hr)
    rw [hE]
    clear hE hr
    go_enter Try.func59, Try.ntmps59
    go_wp2_with fail
    refine (rFind_c F _ 0 _ S.rows S.size x (h.ext HX.out) hsm).mono ?_
    rintro e w1 ⟨rfl, hx1⟩
    rw [HF.out]
    have hb0 := HB0.out.ext hx1
    have a0 := hb0.cell 0
    have a1 := hb0.cell 1
    have hd1 := HB1.out.ext hx1
    have g0 := hd1.cell 0
    have g1 := hd1.cell 1
    have p0 := hd1.frozen 0
    have p1 := hd1.frozen 1
    have HX1 := Lib.hid (HX.out.trans hx1)
    clear hb0 hd1 hx1
    go_wp2
    refine bodyPost_ret (v := .tuple #[.agg #[.slice A0 S.rows.length c0, .int .i64 S.size], .int .i64 20]) (by simp [results, Try.results59, go_sem, *]) rfl ?_
    refine ⟨_, rfl, h.ext ?_, ?_⟩
    all_goals
      repeat refine Ext.setCell ?_ (by simp) _
      exact HX1.out
  | some r =>
    obtain ⟨i, hi, hr2, hp, hlv⟩ := find_at hr
    have hsw : swapE S x i1 i2 = if i1 < 0 ∨ i2 < 0 ∨ (r.lits.length : Int) ≤ i1 ∨ (r.lits.length : Int) ≤ i2 then 2 else 0 := by unfold swapE; rw [hr]
    have hbad : i1 < 0 ∨ i2 < 0 ∨ (r.lits.length : Int) ≤ i1 ∨ (r.lits.length : Int) ≤ i2 := by
      by_cases hb : i1 < 0 ∨ i2 < 0 ∨ (r.lits.length : Int) ≤ i1 ∨ (r.lits.length : Int) ≤ i2
      · exact hb
      · rw [hsw, if_neg hb] at hE; exact absurd rfl hE
    have hE2 : swapE S x i1 i2 = 2 := by rw [hsw, if_pos hbad]
    rw [hE2]
    have hil := (List.getElem?_eq_some_iff.1 hr2).1
    have hlen := (hI.ok r (List.mem_of_getElem? hr2)).2.1
    have HF := Lib.hid (findA_some hi)
    have HR2 := Lib.hid hr2
    have hcase : i1 < 0 ∨ (¬ i1 < 0 ∧ i2 < 0) ∨ (¬ i1 < 0 ∧ ¬ i2 < 0 ∧ (r.lits.length : Int) ≤ i1) ∨ (¬ i1 < 0 ∧ ¬ i2 < 0 ∧ ¬ (r.lits.length : Int) ≤ i1 ∧ (r.lits.length : Int) ≤ i2) := by omega
    clear hE hr hi hp hlv hr2 hsw hbad hE2 hI
    rcases hcase with t1 | ⟨t1, t2⟩ | ⟨t1, t2, t3⟩ | ⟨t1, t2, t3, t4⟩
    all_goals
      go_enter Try.func59, Try.ntmps59
      go_wp2_with fail
      refine (rFind_c F _ 0 _ S.rows S.size x (h.ext HX.out) hsm).mono ?_
      rintro e w1 ⟨rfl, hx1⟩
      rw [HF.out]
      have hb0 := HB0.out.ext hx1
      have a0 := hb0.cell 0
      have a1 := hb0.cell 1
      have hX1 := HX.out.trans hx1
      obtain ⟨g, cap, A1, n1, c1, e, hq, z0, z1, z2, z3, z4, _⟩ := (h.ext hX1).at_ HR2.out
      have hn1 : n1 = r.lits.length := by simpa [slen] using hq.1.slen
      subst hn1
      injection e with e1 e2 e3
      subst e1 e3
      have HX1 := Lib.hid hX1
      have hd1 := HB1.out.ext hx1
      have g0 := fun o => keep_allocK (o := o) (hd1.cell 0)
      have g1 := fun o => keep_allocK (o := o) (hd1.cell 1)
      have p0 := fun o => (hd1.alloc o).frozen 0
      have p1 := fun o => (hd1.alloc o).frozen 1
      have q0 := fun o => keep_allocK (o := o) a0
      have q1 := fun o => keep_allocK (o := o) a1
      simp at g0 g1
      have i0 : (0 : Int) ≤ (i : Int) := by omega
      have i1' : (i : Int) < (S.rows.length : Int) := by omega
      clear hb0 hx1 hX1 hq hd1
      go_wp2
      refine bodyPost_ret (v := .tuple #[.agg #[.slice (some ⟨g, 0, none⟩) S.rows.length c0, .int .i64 S.size], .int .i64 2]) (by simp [results, Try.results59, go_sem, *]) rfl ?_
      refine ⟨_, rfl, h.ext ?_, ?_⟩
      all_goals
        repeat (first | refine Ext.setCell ?_ (by simp) _ | refine Ext.alloc ?_ _)
        exact HX1.out
end Go.Proofs.Ytbkimfefbdfkbaa
