/- Layer 13 (trail): the reference's Imply. -/
import Derived.Test.YtbkimfefbdfkbaaTrail8
set_option maxRecDepth 100000
namespace Go.Proofs.Ytbkimfefbdfkbaa
open Go.RowKit

set_option maxRecDepth 100000 in
set_option maxHeartbeats 4000000 in
theorem rImplyT_c (w : World) (sv : Value) (S : TSt) (l rs : Int) (h : RowsT w 0 sv S.rows) (hsm : S.rows.length < 1000000000) :
    Calls Try.prog 43 #[.agg #[.int .i64 S.vars, sv, .int .i64 S.depth], .int .i64 l, .int .i64 rs] w (RetT (impT S l rs) (impE S l rs) w) := by
  obtain ⟨A, c, e, hc⟩ := OwnV.len h
  subst e
  by_cases hE : impE S l rs = 0
  · obtain ⟨hm, hr⟩ := imp_ok hE
    have HM := Lib.hid hm
    have HE := Lib.hid hE
    clear hm hE
    have hb0 := (Blk.new w 30 #[.int .i64 S.vars, .slice A S.rows.length c, .int .i64 S.depth]).alloc (Obj.cells #[.int .i64 0, .slice none 0 0, .int .i64 0] 30)
    have HB0 := Lib.hid hb0
    have HBB := Lib.hid (Blk.new2 w (Obj.cells #[.int .i64 S.vars, .slice A S.rows.length c, .int .i64 S.depth] 30) 30 #[.int .i64 0, .slice none 0 0, .int .i64 0])
    clear hb0
    go_enter Try.func43, Try.ntmps43
    go_wp2_with fail
    refine (rMayT_c _ 0 _ S l (h.ext (by (repeat (first | with_reducible exact Ext.refl _ | with_reducible apply Ext.alloc | with_reducible apply Ext.drew | with_reducible apply Ext.drewN | (apply Ext.trans'; assumption))))) (by omega)).mono ?_
    rintro e W ⟨rfl, hx1⟩
    rw [HM.out]
    have hbW := HB0.out.ext hx1
    have hxW : Ext w W := by (repeat (first | with_reducible exact Ext.refl _ | with_reducible apply Ext.alloc | with_reducible apply Ext.drew | with_reducible apply Ext.drewN | (apply Ext.trans'; assumption)))
    have hszW : w.heap.size + 2 ≤ W.heap.size := by have := hx1.size_le; simpa using this
    have HBW := Lib.hid hbW
    have HRW := Lib.hid (h.ext hxW)
    have HXW := Lib.hid hxW
    have HB4 := Lib.hid (HBB.out.ext hx1)
    have d0 : W.cell? ⟨w.heap.size, 0, none⟩ = some (.int .i64 S.vars) := hbW.cell 0
    have d1 : W.cell? ⟨w.heap.size, 1, none⟩ = some (.slice A S.rows.length c) := hbW.cell 1
    have d2 : W.cell? ⟨w.heap.size, 2, none⟩ = some (.int .i64 S.depth) := hbW.cell 2
    clear hbW hxW hx1 d0
    go_wp2
    have n1 : ∀ o, (W.alloc o).cell? ⟨w.heap.size, 1, none⟩ = some (.slice A S.rows.length c) := fun o => ((Ext.refl W).alloc o).cell d1
    have n2 : ∀ o, (W.alloc o).cell? ⟨w.heap.size, 2, none⟩ = some (.int .i64 S.depth) := fun o => ((Ext.refl W).alloc o).cell d2
    have n3 : ∀ o o', ((W.alloc o).alloc o').cell? ⟨w.heap.size, 1, none⟩ = some (.slice A S.rows.length c) := fun o o' => (((Ext.refl W).alloc o).alloc o').cell d1
    have n4 : ∀ o o', ((W.alloc o).alloc o').cell? ⟨w.heap.size, 2, none⟩ = some (.int .i64 S.depth) := fun o o' => (((Ext.refl W).alloc o).alloc o').cell d2
    go_region_law
      ((first
        | (refine step_appendV eltT _ (by rfl) (.tmp 22) (.tmp 24) (by rfl) W.heap.size _ 0 [] (by rfl) (by first | exact OwnV.less (own_emptyV _ _ _) (by simp) | exact OwnV.less (own_emptyV2 _ _ _ _) (by omega) | exact OwnV.less (OwnV.alloc (own_emptyV _ _ _) _) (by simp)) _ _ _ (S.rows.flatMap encT) (by rfl) (SlV.ext (SlV.of_own HRW.out (by omega)) (show Ext W _ by (repeat (first | with_reducible exact Ext.refl _ | with_reducible apply Ext.alloc | with_reducible apply Ext.drew | with_reducible apply Ext.drewN | (apply Ext.trans'; assumption))))) (encT_one _) (by omega) (by simp <;> omega) ?_; intro A3 n3 c3 w3 ho3 hg3 hloc; have hx3 : Ext W w3 := Ext.grown (show Ext W _ by (repeat (first | with_reducible exact Ext.refl _ | with_reducible apply Ext.alloc | with_reducible apply Ext.drew | with_reducible apply Ext.drewN | (apply Ext.trans'; assumption)))) hg3 (fun k e => by have := row_eq e; omega); have hb3 := HBW.out.ext hx3; have e1 := hb3.cell 1; have e2 := hb3.cell 2; have m2 : ∀ o, (w3.alloc o).cell? ⟨w.heap.size, 2, none⟩ = some (.int .i64 S.depth) := fun o => ((Ext.refl w3).alloc o).cell e2; clear hb3; have HX3 := Lib.hid hx3; (first | (have hent : Blk w3 (W.heap.size + 1) 49 #[.int .i64 l, .int .i64 S.depth, .int .i64 rs] := (Blk.drew (Blk.new2 W _ _ _)).grown hg3 (fun e => by have := row_eq e.symm; omega)) | (have hent : Blk w3 W.heap.size 49 #[.int .i64 l, .int .i64 S.depth, .int .i64 rs] := (Blk.drew ((Blk.new W _ _).alloc _)).grown hg3 (fun e => by have := row_eq e.symm; omega)) | skip); have HO3 := Lib.hid ho3; clear hx3 ho3 hg3 hloc)
        | (refine step_appendV eltT _ (by rfl) (.tmp 25) (.tmp 31) (by rfl) W.heap.size _ (0 + S.rows.length) ([] ++ S.rows.flatMap encT) (by rfl) (by first | exact HO3.out | exact OwnV.alloc HO3.out _) _ _ _ #[.int .i64 l, .int .i64 S.depth, .int .i64 rs].toList (by rfl) (by first | exact SlV.new1 _ _ _ | exact SlV.blk (by assumption)) (by intro u hu; simp at hu; rcases hu with rfl | rfl | rfl <;> rfl) (by omega) (by have := HX3.out.size_le; first | exact this | (simp; omega)) ?_; intro A4 n4 c4 w4 ho4 hg4 hloc; have hx4 : Ext W w4 := Ext.grown (HX3.out.trans (show Ext w3 _ by (repeat (first | with_reducible exact Ext.refl _ | with_reducible apply Ext.alloc | with_reducible apply Ext.drew | with_reducible apply Ext.drewN | (apply Ext.trans'; assumption))))) hg4 (fun k e => (OwnV.blk HO3.out k e).1); have hb4 := HBW.out.ext hx4; have e0 := hb4.cell 0; have e1 := hb4.cell 1; have f1 := hb4.frozen 1; have e2 := hb4.cell 2; have hd4 := HB4.out.ext hx4; have g0 := hd4.cell 0; have g1 := hd4.cell 1; have g2 := hd4.cell 2; have p0 := hd4.frozen 0; have p1 := hd4.frozen 1; have p2 := hd4.frozen 2; clear hb4 hd4; have HX4 := Lib.hid hx4; have HO4 := Lib.hid ho4; clear hx4 ho4 hg4 hloc)))
    all_goals
      go_wp2
      refine bodyPost_ret (v := .tuple #[.agg #[.int .i64 S.vars, .slice A4 n4 c4, .int .i64 S.depth], .int .i64 0]) (by simp [results, Try.results43, go_sem, *]) rfl ?_
      have hd : impT S l rs = ⟨S.vars, S.rows ++ [⟨l, S.depth, rs⟩], S.depth⟩ := by unfold impT; rw [if_pos HE.out]
      rw [hd, HE.out]
      refine ⟨_, rfl, ?_, ?_⟩
      · have h5 : RowsT w4 0 (.slice A4 n4 c4) (S.rows ++ [⟨l, S.depth, rs⟩]) := by
          have := OwnV.less HO4.out (Nat.zero_le _)
          unfold RowsT
          rw [List.length_append, List.flatMap_append]
          simpa [encT] using this
        have hne : ∀ k, (Value.slice A4 n4 c4).ownBlock = some k → W.heap.size ≤ k := fun k e => (OwnV.blk HO4.out k e).1
        repeat refine OwnV.setCell ?_ (fun k e => by have := hne k e; simp; omega) _
        exact h5
      · have h6 := HXW.out.trans HX4.out
        repeat refine Ext.setCell ?_ (by simp) _
        exact h6
  · have hEb : (impE S l rs != 0) = true := by simpa using hE
    have HE := Lib.hid hE
    have hcase : (mayV S l = 0 ∧ rs < 0 ∧ impE S l rs = 2) ∨ (mayV S l ≠ 0 ∧ impE S l rs = mayV S l) := by
      by_cases hm : mayV S l = 0
      · left
        unfold impE at hE ⊢
        rw [if_neg (by simp [hm])] at hE ⊢
        by_cases hr : rs < 0
        · exact ⟨hm, hr, by rw [if_pos hr]⟩
        · rw [if_neg hr] at hE; exact absurd rfl hE
      · right; exact ⟨hm, by unfold impE; rw [if_pos hm]⟩
    clear hE hEb
    have hd : impT S l rs = S := by unfold impT; rw [if_neg HE.out]
    have HD := Lib.hid hd
    clear hd
    have HBB := Lib.hid (Blk.new2 w (Obj.cells #[.int .i64 S.vars, .slice A S.rows.length c, .int .i64 S.depth] 30) 30 #[.int .i64 0, .slice none 0 0, .int .i64 0])
    have HB0 := Lib.hid ((Blk.new w 30 #[.int .i64 S.vars, .slice A S.rows.length c, .int .i64 S.depth]).alloc (Obj.cells #[.int .i64 0, .slice none 0 0, .int .i64 0] 30))
    rcases hcase with ⟨hm, hr, he⟩ | ⟨hm, he⟩
    · have HM := Lib.hid hm
      have HEE := Lib.hid he
      clear hm he
      go_enter Try.func43, Try.ntmps43
      go_wp2_with fail
      refine (rMayT_c _ 0 _ S l (h.ext (by (repeat (first | with_reducible exact Ext.refl _ | with_reducible apply Ext.alloc | with_reducible apply Ext.drew | with_reducible apply Ext.drewN | (apply Ext.trans'; assumption))))) (by omega)).mono ?_
      rintro e w1 ⟨rfl, hx1⟩
      rw [HM.out]
      have hb1 := HB0.out.ext hx1
      have a0 := hb1.cell 0
      have a1 := hb1.cell 1
      have a2 := hb1.cell 2
      have hd1 := HBB.out.ext hx1
      have g0 := hd1.cell 0
      have g1 := hd1.cell 1
      have g2 := hd1.cell 2
      have p0 := hd1.frozen 0
      have p1 := hd1.frozen 1
      have p2 := hd1.frozen 2
      clear hb1 hd1
      go_wp2
      refine bodyPost_ret (v := .tuple #[.agg #[.int .i64 S.vars, .slice A S.rows.length c, .int .i64 S.depth], .int .i64 2]) (by simp [results, Try.results43, go_sem, *]) rfl ?_
      rw [HD.out, HEE.out]
      have hx2 : Ext w w1 := by (repeat (first | with_reducible exact Ext.refl _ | with_reducible apply Ext.alloc | with_reducible apply Ext.drew | with_reducible apply Ext.drewN | (apply Ext.trans'; assumption)))
      refine ⟨_, rfl, ?_, ?_⟩
      · have h5 : RowsT w1 0 (.slice A S.rows.length c) S.rows := h.ext hx2
        have hne : ∀ k, (Value.slice A S.rows.length c).ownBlock = some k → k < w.heap.size := fun k e => (OwnV.blk h k e).2
        repeat refine OwnV.setCell ?_ (fun k e => by have := hne k e; simp; omega) _
        exact h5
      · repeat refine Ext.setCell ?_ (by simp) _
        exact hx2
    · have hmb : (mayV S l == 0) = false := by simpa using hm
      have hmb2 : (mayV S l != 0) = true := by simpa using hm
      have HEE := Lib.hid he
      clear hm he
      go_enter Try.func43, Try.ntmps43
      go_wp2_with fail
      refine (rMayT_c _ 0 _ S l (h.ext (by (repeat (first | with_reducible exact Ext.refl _ | with_reducible apply Ext.alloc | with_reducible apply Ext.drew | with_reducible apply Ext.drewN | (apply Ext.trans'; assumption))))) (by omega)).mono ?_
      rintro e w1 ⟨rfl, hx1⟩
      have hb1 := HB0.out.ext hx1
      have a0 := hb1.cell 0
      have a1 := hb1.cell 1
      have a2 := hb1.cell 2
      have hd1 := HBB.out.ext hx1
      have g0 := hd1.cell 0
      have g1 := hd1.cell 1
      have g2 := hd1.cell 2
      have p0 := hd1.frozen 0
      have p1 := hd1.frozen 1
      have p2 := hd1.frozen 2
      clear hb1 hd1
      go_wp2
      refine bodyPost_ret (v := .tuple #[.agg #[.int .i64 S.vars, .slice A S.rows.length c, .int .i64 S.depth], .int .i64 (mayV S l)]) (by simp [results, Try.results43, go_sem, *]) rfl ?_
      rw [HD.out, HEE.out]
      have hx2 : Ext w w1 := by (repeat (first | with_reducible exact Ext.refl _ | with_reducible apply Ext.alloc | with_reducible apply Ext.drew | with_reducible apply Ext.drewN | (apply Ext.trans'; assumption)))
      refine ⟨_, rfl, ?_, ?_⟩
      · have h5 : RowsT w1 0 (.slice A S.rows.length c) S.rows := h.ext hx2
        have hne : ∀ k, (Value.slice A S.rows.length c).ownBlock = some k → k < w.heap.size := fun k e => (OwnV.blk h k e).2
        repeat refine OwnV.setCell ?_ (fun k e => by have := hne k e; simp; omega) _
        exact h5
      · repeat refine Ext.setCell ?_ (by simp) _
        exact hx2
end Go.Proofs.Ytbkimfefbdfkbaa
