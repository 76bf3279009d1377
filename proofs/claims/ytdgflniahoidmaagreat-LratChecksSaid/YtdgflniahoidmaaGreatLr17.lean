/- Layer 11 (lrat): Step. -/
import Derived.Test.YtdgflniahoidmaaGreatLr15
import Derived.Test.YtdgflniahoidmaaGreatLr4
set_option maxRecDepth 100000
namespace Go.Proofs.YtdgflniahoidmaaGreat
open Go.RowKit

def addE (S : CSt) (s : Stp) : Int := if s.id ≤ S.last then 21 else if tautV s.lits then 11 else if thereV S.rows s.hints = false then 20 else showR S.rows s.lits s.hints
theorem stepE_may {S : CSt} {s : Stp} (h : mayV s = true) : stepE S s = if s.kind = 2 then (if dropOk S.rows s.hints then 0 else 20) else addE S s := by
  unfold stepE addE; rw [h, if_neg (by simp)]
theorem within_in {l : List Int} {lo : Int} (h : withinV l lo = true) (hlo : -10000000 ≤ lo) : l.length ≤ 1000 ∧ HintsIn l := by
  unfold withinV at h
  rw [Bool.and_eq_true, decide_eq_true_eq, Bool.not_eq_true', List.any_eq_false] at h
  refine ⟨h.1, fun x hx => ?_⟩
  have := h.2 x hx
  unfold outV at this
  simp at this
  omega

/-- An error leaves the checker as it was. -/
def RetTurn (p b : Nat) (E : Int) (S S' : CSt) (w : World) (e : Ending) (w' : World) : Prop := e = .returned (.int .i64 E) ∧ ChNext w w' p b (if E ≠ 0 then S else S')
theorem RetTurn.err {p b : Nat} {E E0 : Int} {S S' : CSt} {w w' : World} (h : CMem w p b S) (hx : Ext w w') (hE : E = E0) (hne : E0 ≠ 0) : RetTurn p b E S S' w (.returned (.int .i64 E0)) w' := by
  subst hE
  exact ⟨rfl, by rw [if_pos hne]; exact ⟨h.ext hx, Ext.stay hx⟩⟩
theorem RetTurn.ok {p b : Nat} {E : Int} {S S' : CSt} {w w' : World} (h : ChNext w w' p b S') (hE : E = 0) : RetTurn p b E S S' w (.returned (.int .i64 0)) w' := by
  subst hE
  exact ⟨rfl, h⟩
theorem add_nochange {w w' : World} {p b : Nat} {S : CSt} (h : CMem w p b S) (hx : Ext w w') : ChNext w w' p b S := ⟨h.ext hx, Ext.stay hx⟩

set_option maxHeartbeats 4000000 in
theorem add_c (p b : Nat) (S : CSt) (s : Stp) (A : Option Addr) (n c : Nat) (A' : Option Addr) (n' c' : Nat) (w : World) (hm : CMem w p b S) (hi : Inv11 S) (hrl : S.rows.length ≤ 100000) (h : IntSl w A n s.lits) (h' : IntSl w A' n' s.hints) (hsm : n ≤ 1000) (hsm' : n' ≤ 1000) (hh : HintsIn s.hints) (hid : s.id ≤ 10000000) :
    Calls Tryz.prog 27 #[.pointer (some ⟨p, 0, none⟩), .agg #[.int .i64 s.kind, .int .i64 s.id, .slice A n c, .slice A' n' c']] w (RetTurn p b (addE S s) S (putR S s.id s.lits) w) := by
  obtain ⟨kind, id, lits, hints⟩ := s
  dsimp only at h h' hh hid ⊢
  have HX0 := Lib.hid ((Ext.refl w).alloc (Obj.cells #[.int .i64 kind, .int .i64 id, .slice A n c, .slice A' n' c'] 44))
  have HB0 := Lib.hid (Blk.new w 44 #[.int .i64 kind, .int .i64 id, .slice A n c, .slice A' n' c'])
  have hblk := HB0.out.cell 1
  have hb0 := HB0.out.cell 2
  have hb3 := HB0.out.cell 3
  have hm0 := hm.ext HX0.out
  have hp1 := hm0.blk.cell 1
  have HM := Lib.hid hm
  have HM0 := Lib.hid hm0
  have HI := Lib.hid hi
  have HS := Lib.hid h
  have HS' := Lib.hid h'
  have HH := Lib.hid hh
  have HA : Hid (addE S ⟨kind, id, lits, hints⟩ = if id ≤ S.last then 21 else if tautV lits then 11 else if thereV S.rows hints = false then 20 else showR S.rows lits hints) := rfl
  clear hm hi h h' hh hm0
  have hl9 := HI.out.low
  obtain ⟨last, hlast⟩ : ∃ last, S.last = last := ⟨_, rfl⟩
  have HLA := Lib.hid hlast
  rw [hlast] at hp1 hl9
  clear hlast
  by_cases h1 : id ≤ last
  · have HR : Hid (addE S ⟨kind, id, lits, hints⟩ = 21) := by unfold Hid; rw [HA.out, HLA.out, if_pos h1]
    go_enter Tryz.func27, Tryz.ntmps27
    go_wp2
    go_quiet (fail)
    go_wp2
    go_ret
    exact RetTurn.err HM.out (HX0.out.drewN _) HR.out (by decide)
  · cases ht : tautV lits with
    | true =>
      have HT := Lib.hid ht
      have HR : Hid (addE S ⟨kind, id, lits, hints⟩ = 11) := by unfold Hid; rw [HA.out, HLA.out, if_neg h1, ht, if_pos rfl]
      clear ht
      go_enter Tryz.func27, Tryz.ntmps27
      go_wp2
      go_quiet (fail)
      go_wp2_with fail
      refine (taut_c _ _ _ lits _ (HS.out.ext (HX0.out.drewN _)) (by omega)).mono ?_
      rintro e w1 ⟨rfl, hx1⟩
      rw [HT.out]
      have HX1 := Lib.hid ((HX0.out.drewN _).trans hx1)
      clear hx1
      go_wp2_with fail
      go_ret
      exact RetTurn.err HM.out HX1.out HR.out (by decide)
    | false =>
      have HT := Lib.hid ht
      have HA2 : Hid (addE S ⟨kind, id, lits, hints⟩ = if thereV S.rows hints = false then 20 else showR S.rows lits hints) := by unfold Hid; rw [HA.out, HLA.out, if_neg h1, ht, if_neg (by simp)]
      clear ht HA
      obtain ⟨th, hth⟩ : ∃ th, thereV S.rows hints = th := ⟨_, rfl⟩
      obtain ⟨E, hE⟩ : ∃ E, showR S.rows lits hints = E := ⟨_, rfl⟩
      rw [hth, hE] at HA2
      have HTH := Lib.hid hth
      have HE := Lib.hid hE
      clear hth hE
      go_enter Tryz.func27, Tryz.ntmps27
      go_wp2
      go_quiet (fail)
      go_wp2_with fail
      refine (taut_c _ _ _ lits _ (HS.out.ext (HX0.out.drewN _)) (by omega)).mono ?_
      rintro e w1 ⟨rfl, hx1⟩
      rw [HT.out]
      have HX1 := Lib.hid ((HX0.out.drewN _).trans hx1)
      have hb1 := HB0.out.ext (((Ext.refl _).drewN _).trans hx1)
      have c2 := hb1.cell 2
      have c3 := hb1.cell 3
      have HB1 := Lib.hid hb1
      clear hx1 hb1 hblk hb0 hb3 hp1
      go_wp2_with fail
      refine (there_c _ p b S _ _ _ hints (HM.out.ext HX1.out) HI.out (HS'.out.ext HX1.out) HH.out).mono ?_
      rintro e w2 ⟨rfl, hx2⟩
      rw [HTH.out]
      have HX2 := Lib.hid (HX1.out.trans hx2)
      have HB2 := Lib.hid (HB1.out.ext hx2)
      have d1 := HB2.out.cell 1
      have d2 := HB2.out.cell 2
      have d3 := HB2.out.cell 3
      clear hx2 c2 c3
      cases th with
      | false =>
        have HR : Hid (addE S ⟨kind, id, lits, hints⟩ = 20) := by unfold Hid; rw [HA2.out, if_pos rfl]
        go_wp2_with fail
        go_ret
        exact RetTurn.err HM.out HX2.out HR.out (by decide)
      | true =>
        have HR : Hid (addE S ⟨kind, id, lits, hints⟩ = E) := by unfold Hid; rw [HA2.out, if_neg (by simp)]
        go_wp2_with fail
        refine (show_c p b S _ _ _ lits _ _ _ hints _ (HM.out.ext HX2.out) HI.out hrl (HS.out.ext HX2.out) (HS'.out.ext HX2.out) hsm hsm' HH.out).mono ?_
        rintro e w3 ⟨rfl, hx3⟩
        rw [HE.out]
        have HX3 := Lib.hid (HX2.out.trans hx3)
        have HB3 := Lib.hid (HB2.out.ext hx3)
        have e1 := HB3.out.cell 1
        have e2 := HB3.out.cell 2
        clear hx3 d1 d2 d3
        by_cases hz : E = 0
        · subst hz
          go_wp2_with fail
          refine (put_c _ p b S id _ _ _ lits (HM.out.ext HX3.out) HI.out (HS.out.ext HX3.out) (by rw [HLA.out]; omega) hid hsm).mono ?_
          rintro e w4 ⟨rfl, hm4, hst4⟩
          have HM4 := Lib.hid hm4
          have HST := Lib.hid (Stay.ext_trans HX3.out hst4)
          clear hm4 hst4
          go_wp2_with fail
          go_ret
          exact RetTurn.ok ⟨HM4.out, HST.out⟩ HR.out
        · have hb : (E == 0) = false := by simpa using hz
          go_wp2_with fail
          go_ret
          exact RetTurn.err HM.out HX3.out HR.out hz
end Go.Proofs.YtdgflniahoidmaaGreat

namespace Go.Proofs.YtdgflniahoidmaaGreat
open Go.RowKit

def RetStep11 (p b : Nat) (S : CSt) (s : Stp) (w : World) (e : Ending) (w' : World) : Prop := e = .returned (.int .i64 (stepE S s)) ∧ ChNext w w' p b (stepS S s)
theorem stepS_bad {S : CSt} {s : Stp} (h : stepE S s ≠ 0) : stepS S s = S := by unfold stepS; rw [if_pos h]

theorem check1s_c (kind id : Int) (lits hints : List Int) (A : Option Addr) (n c : Nat) (A' : Option Addr) (n' c' : Nat) (g : Nat) (w : World) (hb : Blk w g 44 #[.int .i64 kind, .int .i64 id, .slice A n c, .slice A' n' c']) (h : IntSl w A n lits) (h' : IntSl w A' n' hints) :
    Calls Tryz.prog 25 #[.slice (some ⟨g, 0, none⟩) 1 1] w fun e w' => e = .returned (.tuple #[.int .i64 (if mayV ⟨kind, id, lits, hints⟩ then 1 else 0), .int .i64 (if mayV ⟨kind, id, lits, hints⟩ then 0 else 2)]) ∧ Ext w w' :=
  proofCheck_c ⟨kind, id, lits, hints⟩ A n c A' n' c' g w hb h h'

set_option maxHeartbeats 4000000 in
theorem step_c (p b : Nat) (S : CSt) (s : Stp) (A : Option Addr) (n c : Nat) (A' : Option Addr) (n' c' : Nat) (w : World) (hm : CMem w p b S) (hi : Inv11 S) (hrl : S.rows.length ≤ 100000) (h : IntSl w A n s.lits) (h' : IntSl w A' n' s.hints) (hO : 0 < n' → Out (ChF p b) A') :
    Calls Tryz.prog 10 #[.pointer (some ⟨p, 0, none⟩), .agg #[.int .i64 s.kind, .int .i64 s.id, .slice A n c, .slice A' n' c']] w (RetStep11 p b S s w) := by
  obtain ⟨kind, id, lits, hints⟩ := s
  dsimp only at h h' ⊢
  have HX0 := Lib.hid ((Ext.refl w).alloc (Obj.cells #[.int .i64 kind, .int .i64 id, .slice A n c, .slice A' n' c'] 44))
  have HB0 := Lib.hid (Blk.new w 44 #[.int .i64 kind, .int .i64 id, .slice A n c, .slice A' n' c'])
  have HM := Lib.hid hm
  have HI := Lib.hid hi
  have HS := Lib.hid h
  have HS' := Lib.hid h'
  have HO := Lib.hid hO
  have HLN : Hid (lits.length = n) := h.1
  have HLN' : Hid (hints.length = n') := h'.1
  clear hm hi h h' hO
  have b0 := HB0.out.cell 0
  have b1 := HB0.out.cell 1
  have b2 := HB0.out.cell 2
  have b3 := HB0.out.cell 3
  cases hmay : mayV ⟨kind, id, lits, hints⟩ with
  | false =>
    have HY := Lib.hid hmay
    have HR : Hid (stepE S ⟨kind, id, lits, hints⟩ = 2) := by unfold Hid stepE; rw [hmay, if_pos rfl]
    clear hmay
    go_enter Tryz.func10, Tryz.ntmps10
    go_wp2_with fail
    refine (made_c _ p b S (HM.out.ext HX0.out)).mono ?_
    rintro e w1 ⟨rfl, rfl⟩
    go_wp2_with fail
    have HX1 := Lib.hid (HX0.out.alloc (Obj.cells #[.int .i64 kind, .int .i64 id, .slice A n c, .slice A' n' c'] 44))
    have hchk := check1s_c kind id lits hints A n c A' n' c' (w.heap.size + 1) _ (Blk.newg2 (w := w.alloc (Obj.cells #[.int .i64 kind, .int .i64 id, .slice A n c, .slice A' n' c'] 44)) 44 #[.int .i64 kind, .int .i64 id, .slice A n c, .slice A' n' c'] (by simp)) (HS.out.ext HX1.out) (HS'.out.ext HX1.out)
    refine hchk.mono ?_
    clear hchk
    rintro e w2 ⟨rfl, hx2⟩
    rw [HY.out]
    have HX2 := Lib.hid (HX1.out.trans hx2)
    clear hx2
    go_wp2_with fail
    go_ret
    exact ⟨ret_int HR.out.symm, by rw [stepS_bad (by rw [HR.out]; decide)]; exact add_nochange HM.out HX2.out⟩
  | true =>
    have HY := Lib.hid hmay
    by_cases hk : kind = 2
    · subst hk
      have HR : Hid (stepE S ⟨2, id, lits, hints⟩ = if dropOk S.rows hints then 0 else 20) := by unfold Hid; rw [stepE_may hmay, if_pos rfl]
      have hw : withinV hints 1 = true := by
        unfold mayV at hmay
        rw [if_neg (show ¬ ((2 : Int) = 1) by decide), if_pos rfl] at hmay
        simp only [Bool.and_eq_true] at hmay
        exact hmay.2
      obtain ⟨hw1, hw2⟩ := within_in hw (by decide)
      rw [HLN'.out] at hw1
      have HW := Lib.hid hw2
      clear hmay hw hw2
      go_enter Tryz.func10, Tryz.ntmps10
      go_wp2_with fail
      refine (made_c _ p b S (HM.out.ext HX0.out)).mono ?_
      rintro e w1 ⟨rfl, rfl⟩
      go_wp2_with fail
      have HX1 := Lib.hid (HX0.out.alloc (Obj.cells #[.int .i64 2, .int .i64 id, .slice A n c, .slice A' n' c'] 44))
      have hchk := check1s_c 2 id lits hints A n c A' n' c' (w.heap.size + 1) _ (Blk.newg2 (w := w.alloc (Obj.cells #[.int .i64 2, .int .i64 id, .slice A n c, .slice A' n' c'] 44)) 44 #[.int .i64 2, .int .i64 id, .slice A n c, .slice A' n' c'] (by simp)) (HS.out.ext HX1.out) (HS'.out.ext HX1.out)
      refine hchk.mono ?_
      clear hchk
      rintro e w2 ⟨rfl, hx2⟩
      rw [HY.out]
      have HX2 := Lib.hid (HX1.out.trans hx2)
      have hb2 := HB0.out.ext (((Ext.refl _).alloc _).trans hx2)
      have c0 := hb2.cell 0
      have c3 := hb2.cell 3
      clear hx2 b0 b1 b2 b3
      go_wp2_with fail
      refine (drop_c _ p b S _ _ _ hints (HM.out.ext HX2.out) HI.out (HS'.out.ext HX2.out) HO.out HW.out hw1).mono ?_
      rintro e w3 ⟨rfl, hm3, hst3⟩
      have HM3 := Lib.hid hm3
      have HST := Lib.hid (Stay.ext_trans HX2.out hst3)
      clear hm3 hst3
      obtain ⟨d, hd⟩ : ∃ d, dropOk S.rows hints = d := ⟨_, rfl⟩
      rw [hd] at HR HM3 ⊢
      clear hd
      cases d
      · go_wp2_with fail
        go_ret
        exact ⟨ret_int HR.out.symm, by rw [stepS_bad (by rw [HR.out]; decide)]; exact ⟨HM3.out, HST.out⟩⟩
      · go_wp2_with fail
        go_ret
        exact ⟨ret_int HR.out.symm, by unfold stepS; rw [if_neg (by rw [HR.out]; decide), if_pos rfl]; exact ⟨HM3.out, HST.out⟩⟩
    · have hk1 := may_kind hmay hk
      dsimp only at hk1
      subst hk1
      obtain ⟨hm1, hm2, hm3, hm4⟩ := may_add hmay rfl
      dsimp only at hm1 hm2 hm3 hm4
      have hls := (ccheck_lits (by decide) hm3).1
      rw [HLN.out] at hls
      obtain ⟨hw1, hw2⟩ := within_in hm4 (by decide)
      rw [HLN'.out] at hw1
      have HW := Lib.hid hw2
      have HR : Hid (stepE S ⟨1, id, lits, hints⟩ = addE S ⟨1, id, lits, hints⟩) := by unfold Hid; rw [stepE_may hmay, if_neg (by simp)]
      clear hmay hw2 hm3 hm4 hk
      go_enter Tryz.func10, Tryz.ntmps10
      go_wp2_with fail
      refine (made_c _ p b S (HM.out.ext HX0.out)).mono ?_
      rintro e w1 ⟨rfl, rfl⟩
      go_wp2_with fail
      have HX1 := Lib.hid (HX0.out.alloc (Obj.cells #[.int .i64 1, .int .i64 id, .slice A n c, .slice A' n' c'] 44))
      have hchk := check1s_c 1 id lits hints A n c A' n' c' (w.heap.size + 1) _ (Blk.newg2 (w := w.alloc (Obj.cells #[.int .i64 1, .int .i64 id, .slice A n c, .slice A' n' c'] 44)) 44 #[.int .i64 1, .int .i64 id, .slice A n c, .slice A' n' c'] (by simp)) (HS.out.ext HX1.out) (HS'.out.ext HX1.out)
      refine hchk.mono ?_
      clear hchk
      rintro e w2 ⟨rfl, hx2⟩
      rw [HY.out]
      have HX2 := Lib.hid (HX1.out.trans hx2)
      have hb2 := HB0.out.ext (((Ext.refl _).alloc _).trans hx2)
      have c0 := hb2.cell 0
      have c1 := hb2.cell 1
      have c2 := hb2.cell 2
      have c3 := hb2.cell 3
      clear hx2 b0 b1 b2 b3
      go_wp2_with fail
      refine (add_c p b S ⟨1, id, lits, hints⟩ _ _ _ _ _ _ _ (HM.out.ext HX2.out) HI.out hrl (HS.out.ext HX2.out) (HS'.out.ext HX2.out) hls hw1 HW.out hm2).mono ?_
      rintro e w3 ⟨rfl, hm3, hst3⟩
      have HM3 := Lib.hid hm3
      have HST := Lib.hid (Stay.ext_trans HX2.out hst3)
      clear hm3 hst3
      go_wp2_with fail
      go_ret
      refine ⟨ret_int HR.out.symm, ?_, HST.out⟩
      have := HM3.out
      rw [← HR.out] at this
      exact this
end Go.Proofs.YtdgflniahoidmaaGreat
