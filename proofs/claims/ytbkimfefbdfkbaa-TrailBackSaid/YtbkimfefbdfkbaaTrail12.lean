/- Layer 13 (trail): what a law does with both trails; they are the same. -/
import Derived.Test.YtbkimfefbdfkbaaTrail11
set_option maxRecDepth 100000
namespace Go.Proofs.Ytbkimfefbdfkbaa
open Go.RowKit

theorem trDecideNil_c (l : Int) (w : World) : Calls Try.prog 39 #[.pointer none, .int .i64 l] w fun e w' => e = .returned (.int .i64 1) ∧ w = w' := by
  have hm : ∀ W : World, Calls Try.prog 68 #[.pointer none, .int .i64 l] W fun e w' => e = .returned (.int .i64 1) ∧ W = w' := fun W => by
    go_enter Try.func68, Try.ntmps68
    go_wp2_with (go_at_call 51; refine (trIsNil_c _).mono ?_; rintro e w' ⟨rfl, rfl⟩)
    go_ret
    exact ⟨rfl, rfl⟩
  go_enter Try.func39, Try.ntmps39
  go_wp2_with (go_at_call 68; refine (hm _).mono ?_; rintro e w' ⟨rfl, rfl⟩)
  go_ret
  exact ⟨rfl, rfl⟩
theorem trLevelNil_c (l : Int) (w : World) : Calls Try.prog 17 #[.pointer none, .int .i64 l] w fun e w' => e = .returned (.int .i64 (-1)) ∧ Ext w w' := by
  have hm : ∀ W : World, Calls Try.prog 53 #[.pointer none, .int .i64 l] W fun e w' => e = .returned (.tuple #[.agg #[.int .i64 0, .int .i64 (-1), .int .i64 (-1), .int .i64 (-1)], .bool false]) ∧ Ext W w' := fun W => by
    go_enter Try.func53, Try.ntmps53
    go_wp2_with (go_at_call 51; refine (trIsNil_c _).mono ?_; rintro e w' ⟨rfl, rfl⟩)
    refine bodyPost_ret (v := .tuple #[.agg #[.int .i64 0, .int .i64 (-1), .int .i64 (-1), .int .i64 (-1)], .bool false]) (by simp [results, Try.results53, go_sem]) rfl ⟨rfl, ?_⟩
    (repeat (first | with_reducible exact Ext.refl _ | with_reducible apply Ext.alloc | with_reducible apply Ext.drew | with_reducible apply Ext.drewN | (apply Ext.trans'; assumption)))
  go_enter Try.func17, Try.ntmps17
  go_wp2_with fail
  refine (hm _).mono ?_
  rintro e w1 ⟨rfl, hx⟩
  go_wp2
  go_ret
  exact ⟨rfl, by (repeat (first | with_reducible exact Ext.refl _ | with_reducible apply Ext.alloc | with_reducible apply Ext.drew | with_reducible apply Ext.drewN | (apply Ext.trans'; assumption)))⟩

/-- What 'do' hands back. -/
def RetDo (S : TSt) (a : ActT) (base p gm : Nat) (lv bv : Value) (N : Nat) (w : World) (e : Ending) (w' : World) : Prop :=
  ∃ v, e = .returned (.tuple #[.int .i64 (doE S a), v]) ∧ OwnI w' w.heap.size v (doL S a) ∧ TrNext w w' base p gm lv bv (doS S a) (N + 1)
theorem TrNext.before {w W w' : World} {base p gm : Nat} {lv bv : Value} {S : TSt} {N : Nat} (hx : Ext w W) (h : TrNext W w' base p gm lv bv S N) : TrNext w w' base p gm lv bv S N := by
  obtain ⟨a, b, h1, h2, h3⟩ := h
  exact ⟨a, b, h1, Stay.ext_trans hx h2, fun k hk => by rcases h3 k hk with e | e; exact Or.inl e; exact Or.inr (by have := hx.size_le; omega)⟩

set_option maxHeartbeats 2000000 in
theorem do13_c (w : World) (base p gm : Nat) (lv bv : Value) (S : TSt) (N : Nat) (a : ActT) (h : TrS w base p gm lv bv S N) (hN : N < 1000000000) (h1 : -9223372036854775808 ≤ a.num) (h2 : a.num ≤ 9223372036854775807) (h3 : a.reason ≤ 9223372036854775807) :
    Calls Try.prog 10 #[.pointer (some ⟨p, 0, none⟩), .agg #[.int .i64 a.kind, .int .i64 a.num, .int .i64 a.reason]] w (RetDo S a base p gm lv bv N w) := by
  obtain ⟨kind, num, reason⟩ := a
  dsimp only at h1 h2 h3 ⊢
  obtain ⟨bs, vars, hv, hm, hb⟩ := h.mem
  have hI := h.inv
  have hn := h.n
  have hd := h.d
  have hbl : bs.length < 1000000000 := by have := hb.1; omega
  have hX := (Ext.refl w).alloc (Obj.cells #[.int .i64 kind, .int .i64 num, .int .i64 reason] 37)
  have HM := Lib.hid (hm.ext hX)
  have HX := Lib.hid hX
  have HV := Lib.hid hv
  have HB := Lib.hid hb
  have HI := Lib.hid hI
  clear h hv hm hb hI hX
  by_cases k0 : kind = 0
  · subst k0
    go_enter Try.func10, Try.ntmps10
    go_wp2_with fail
    refine (trDecide_c _ base p gm lv bv S vars bs num HV.out HM.out HI.out HB.out (by omega) hbl).mono ?_
    rintro e w1 ⟨rfl, bs', ht, hb'⟩
    have HT := Lib.hid ht
    have HB' := Lib.hid hb'
    clear ht hb'
    go_wp2
    go_ret2
    have hl := dec_len S num
    have h5 := next_of HT.out (by rw [vars_dec]; exact HV.out) HB'.out (HI.out.dec num) (Nat.le_trans hl.1 (Nat.succ_le_succ hn)) (by omega)
    exact ⟨.slice none 0 0, by simp [doE], by simp [doL]; exact OwnI.nil _ _, by simp only [doS, if_true]; exact TrNext.before HX.out h5⟩
  · have kb0 : (kind == 0) = false := by simpa using k0
    have K0 := Lib.hid k0
    clear k0
    by_cases k1 : kind = 1
    · subst k1
      go_enter Try.func10, Try.ntmps10
      go_wp2_with fail
      refine (trImply_c _ base p gm lv bv S vars bs num reason HV.out HM.out HB.out (by omega)).mono ?_
      rintro e w1 ⟨rfl, ht, hb'⟩
      have HT := Lib.hid ht
      have HB' := Lib.hid hb'
      clear ht hb'
      go_wp2
      go_ret2
      have hl := imp_len S num reason
      have h5 := next_of HT.out (by rw [vars_imp]; exact HV.out) HB'.out (HI.out.imp num h3) (Nat.le_trans hl.1 (Nat.succ_le_succ hn)) (by omega)
      exact ⟨.slice none 0 0, by simp [doE], by simp [doL]; exact OwnI.nil _ _, by simp [doS]; exact TrNext.before HX.out h5⟩
    · have kb1 : (kind == 1) = false := by simpa using k1
      have K1 := Lib.hid k1
      clear k1
      go_enter Try.func10, Try.ntmps10
      go_wp2_with fail
      refine (trBack_c _ base p gm lv bv S vars bs num HV.out HM.out HI.out HB.out h1 h2).mono ?_
      rintro e w1 ⟨v, bs', rfl, ho, ht, hb'⟩
      have HO := Lib.hid ho
      have HT := Lib.hid ht
      have HB' := Lib.hid hb'
      clear ht hb' ho
      go_wp2
      go_ret2
      have hl := back_len S num
      have h5 := next_of HT.out (show (backT S num).vars = _ from HV.out) HB'.out (HI.out.back num) (Nat.le_trans hl.1 (Nat.succ_le_succ hn)) (by omega)
      refine ⟨v, by simp [doE, K0.out, K1.out], ?_, by simp only [doS, if_neg K0.out, if_neg K1.out]; exact TrNext.before HX.out h5⟩
      simp only [doL, if_neg K0.out, if_neg K1.out]
      exact OwnI.less HO.out (by simp)

/-- What 'refDo' hands back. -/
def RetRefDo (S : TSt) (a : ActT) (w : World) (e : Ending) (w' : World) : Prop :=
  ∃ sv v, e = .returned (.tuple #[.agg #[.int .i64 (doS S a).vars, sv, .int .i64 (doS S a).depth], .int .i64 (doE S a), v]) ∧ RowsT w' 0 sv (doS S a).rows ∧ OwnI w' w.heap.size v (doL S a) ∧ Ext w w'
theorem Blk.new3 (W : World) (a b : Obj) (t : TypeId) (cs : Array Value) : Blk (((W.alloc a).alloc b).alloc (.cells cs t)) (W.heap.size + 1 + 1) t cs := by
  have := Blk.new ((W.alloc a).alloc b) t cs
  rwa [World.size_alloc, World.size_alloc] at this

set_option maxRecDepth 100000 in
set_option maxHeartbeats 4000000 in
theorem refDo13_c (w : World) (sv : Value) (S : TSt) (a : ActT) (h : RowsT w 0 sv S.rows) (hsm : S.rows.length < 1000000000) (hI : TInv S) (hd : S.depth ≤ 1000000000) :
    Calls Try.prog 11 #[.agg #[.int .i64 S.vars, sv, .int .i64 S.depth], .agg #[.int .i64 a.kind, .int .i64 a.num, .int .i64 a.reason]] w (RetRefDo S a w) := by
  obtain ⟨kind, num, reason⟩ := a
  dsimp only
  have hd0 := hI.d0
  have hbd : ∀ r ∈ S.rows, -9223372036854775808 ≤ r.lit ∧ r.lit ≤ 9223372036854775807 := fun r hr => by have := check_var (hI.lits r hr); omega
  have HBD := Lib.hid hbd
  obtain ⟨A, c, e, hc⟩ := OwnV.len h
  subst e
  clear hbd hI
  have hX := (((Ext.refl w).alloc (Obj.cells #[.int .i64 S.vars, .slice A S.rows.length c, .int .i64 S.depth] 30)).alloc (Obj.cells #[.int .i64 kind, .int .i64 num, .int .i64 reason] 37)).alloc (Obj.cells #[.int .i64 0, .slice none 0 0, .int .i64 0] 30)
  have HR := Lib.hid (h.ext hX)
  have HX := Lib.hid hX
  have B0 := Lib.hid (((Blk.new w 30 #[.int .i64 S.vars, .slice A S.rows.length c, .int .i64 S.depth]).alloc (Obj.cells #[.int .i64 kind, .int .i64 num, .int .i64 reason] 37)).alloc (Obj.cells #[.int .i64 0, .slice none 0 0, .int .i64 0] 30))
  have B2 := Lib.hid (Blk.new3 w (Obj.cells #[.int .i64 S.vars, .slice A S.rows.length c, .int .i64 S.depth] 30) (Obj.cells #[.int .i64 kind, .int .i64 num, .int .i64 reason] 37) 30 #[.int .i64 0, .slice none 0 0, .int .i64 0])
  clear hX h
  by_cases k0 : kind = 0
  · subst k0
    go_enter Try.func11, Try.ntmps11
    go_wp2_with fail
    refine (rDecideT_c _ _ S num HR.out hsm hd0 hd).mono ?_
    rintro e w1 ⟨sv1, rfl, hr1, hx1⟩
    have hb0 := B0.out.ext hx1
    have a0 := hb0.cell 0
    have a1 := hb0.cell 1
    have a2 := hb0.cell 2
    have f0 := hb0.frozen 0
    have f1 := hb0.frozen 1
    have f2 := hb0.frozen 2
    have hb2 := B2.out.ext hx1
    have g0 := hb2.cell 0
    have g1 := hb2.cell 1
    have g2 := hb2.cell 2
    have p0 := hb2.frozen 0
    have p1 := hb2.frozen 1
    have p2 := hb2.frozen 2
    obtain ⟨A1, n1, c1, rfl⟩ := OwnV.form hr1
    have HR1 := Lib.hid hr1
    have HX1 := Lib.hid hx1
    have hsz1 := hx1.size_le
    simp at hsz1
    clear hr1 hx1 hb0 hb2
    go_wp2
    refine bodyPost_ret (v := .tuple #[.agg #[.int .i64 (decT S num).vars, .slice A1 n1 c1, .int .i64 (decT S num).depth], .int .i64 (mayV S num), .slice none 0 0]) (by simp [results, Try.results11, go_sem, *]) rfl ?_
    have hS : doS S ⟨0, num, reason⟩ = (decT S num) := by simp [doS]
    have hE : doE S ⟨0, num, reason⟩ = (mayV S num) := by simp [doE]
    have hL : doL S ⟨0, num, reason⟩ = [] := by simp [doL]
    refine ⟨.slice A1 n1 c1, .slice none 0 0, by rw [hS, hE], ?_, ?_, ?_⟩
    · rw [hS]
      have hne : ∀ k, (Value.slice A1 n1 c1).ownBlock = some k → k ≠ w.heap.size ∧ k ≠ w.heap.size + 1 + 1 := fun k e => ⟨fun hk => OwnV.ne_blk HR1.out (B0.out.ext HX1.out) (by decide) (e.trans (by rw [hk])), fun hk => OwnV.ne_blk HR1.out (B2.out.ext HX1.out) (by decide) (e.trans (by rw [hk]))⟩
      repeat refine OwnV.setCell ?_ (fun k e => by first | exact (hne k e).1 | exact (hne k e).2) _
      exact HR1.out
    · rw [hL]
      exact OwnI.nil _ _
    · repeat refine Ext.setCell ?_ (by simp <;> omega) _
      exact HX.out.trans HX1.out
  · have kb0 : (kind == 0) = false := by simpa using k0
    have K0 := Lib.hid k0
    clear k0
    by_cases k1 : kind = 1
    · subst k1
      go_enter Try.func11, Try.ntmps11
      go_wp2_with fail
      refine (rImplyT_c _ _ S num reason HR.out hsm).mono ?_
      rintro e w1 ⟨sv1, rfl, hr1, hx1⟩
      have hb0 := B0.out.ext hx1
      have a0 := hb0.cell 0
      have a1 := hb0.cell 1
      have a2 := hb0.cell 2
      have f0 := hb0.frozen 0
      have f1 := hb0.frozen 1
      have f2 := hb0.frozen 2
      have hb2 := B2.out.ext hx1
      have g0 := hb2.cell 0
      have g1 := hb2.cell 1
      have g2 := hb2.cell 2
      have p0 := hb2.frozen 0
      have p1 := hb2.frozen 1
      have p2 := hb2.frozen 2
      obtain ⟨A1, n1, c1, rfl⟩ := OwnV.form hr1
      have HR1 := Lib.hid hr1
      have HX1 := Lib.hid hx1
      have hsz1 := hx1.size_le
      simp at hsz1
      clear hr1 hx1 hb0 hb2
      go_wp2
      refine bodyPost_ret (v := .tuple #[.agg #[.int .i64 (impT S num reason).vars, .slice A1 n1 c1, .int .i64 (impT S num reason).depth], .int .i64 (impE S num reason), .slice none 0 0]) (by simp [results, Try.results11, go_sem, *]) rfl ?_
      have hS : doS S ⟨1, num, reason⟩ = (impT S num reason) := by simp [doS]
      have hE : doE S ⟨1, num, reason⟩ = (impE S num reason) := by simp [doE]
      have hL : doL S ⟨1, num, reason⟩ = [] := by simp [doL]
      refine ⟨.slice A1 n1 c1, .slice none 0 0, by rw [hS, hE], ?_, ?_, ?_⟩
      · rw [hS]
        have hne : ∀ k, (Value.slice A1 n1 c1).ownBlock = some k → k ≠ w.heap.size ∧ k ≠ w.heap.size + 1 + 1 := fun k e => ⟨fun hk => OwnV.ne_blk HR1.out (B0.out.ext HX1.out) (by decide) (e.trans (by rw [hk])), fun hk => OwnV.ne_blk HR1.out (B2.out.ext HX1.out) (by decide) (e.trans (by rw [hk]))⟩
        repeat refine OwnV.setCell ?_ (fun k e => by first | exact (hne k e).1 | exact (hne k e).2) _
        exact HR1.out
      · rw [hL]
        exact OwnI.nil _ _
      · repeat refine Ext.setCell ?_ (by simp <;> omega) _
        exact HX.out.trans HX1.out
    · have kb1 : (kind == 1) = false := by simpa using k1
      have K1 := Lib.hid k1
      clear k1
      go_enter Try.func11, Try.ntmps11
      go_wp2_with fail
      refine (rBackT_c _ _ S num HR.out (by omega) HBD.out).mono ?_
      rintro e w1 ⟨sv1, v1, rfl, hr1, ho1, hx1⟩
      have HO1 := Lib.hid ho1
      clear ho1
      have hb0 := B0.out.ext hx1
      have a0 := hb0.cell 0
      have a1 := hb0.cell 1
      have a2 := hb0.cell 2
      have f0 := hb0.frozen 0
      have f1 := hb0.frozen 1
      have f2 := hb0.frozen 2
      have hb2 := B2.out.ext hx1
      have g0 := hb2.cell 0
      have g1 := hb2.cell 1
      have g2 := hb2.cell 2
      have p0 := hb2.frozen 0
      have p1 := hb2.frozen 1
      have p2 := hb2.frozen 2
      obtain ⟨A1, n1, c1, rfl⟩ := OwnV.form hr1
      have HR1 := Lib.hid hr1
      have HX1 := Lib.hid hx1
      have hsz1 := hx1.size_le
      simp at hsz1
      clear hr1 hx1 hb0 hb2
      go_wp2
      refine bodyPost_ret (v := .tuple #[.agg #[.int .i64 S.vars, .slice A1 n1 c1, .int .i64 (backT S num).depth], .int .i64 0, v1]) (by simp [results, Try.results11, go_sem, *]) rfl ?_
      have hS : doS S ⟨kind, num, reason⟩ = (backT S num) := by simp [doS, K0.out, K1.out]
      have hE : doE S ⟨kind, num, reason⟩ = 0 := by simp [doE, K0.out, K1.out]
      have hL : doL S ⟨kind, num, reason⟩ = (backO S num) := by simp [doL, K0.out, K1.out]
      refine ⟨.slice A1 n1 c1, v1, by rw [hS, hE]; rfl, ?_, ?_, ?_⟩
      · rw [hS]
        have hne : ∀ k, (Value.slice A1 n1 c1).ownBlock = some k → k ≠ w.heap.size ∧ k ≠ w.heap.size + 1 + 1 := fun k e => ⟨fun hk => OwnV.ne_blk HR1.out (B0.out.ext HX1.out) (by decide) (e.trans (by rw [hk])), fun hk => OwnV.ne_blk HR1.out (B2.out.ext HX1.out) (by decide) (e.trans (by rw [hk]))⟩
        repeat refine OwnV.setCell ?_ (fun k e => by first | exact (hne k e).1 | exact (hne k e).2) _
        exact HR1.out
      · rw [hL]
        refine OwnI.less (b := w.heap.size + 1 + 1 + 1) ?_ (by omega)
        have hne : ∀ k, v1.ownBlock = some k → w.heap.size + 1 + 1 + 1 ≤ k := fun k e => by have := (HO1.out.blk k e).1; simpa using this
        repeat refine OwnI.setCell ?_ (fun k e => by have := hne k e; simp; omega) _
        exact OwnI.less HO1.out (by simp)
      · repeat refine Ext.setCell ?_ (by simp <;> omega) _
        exact HX.out.trans HX1.out
end Go.Proofs.Ytbkimfefbdfkbaa
