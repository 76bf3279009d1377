/- Layer 11 (lrat): Step. -/
import Derived.Test.YtdgflniahoidmaaLr16
import Derived.Test.YtdgflniahoidmaaLr4
set_option maxRecDepth 100000
namespace Go.Proofs.Ytdgflniahoidmaa
open Go.RowKit

def RetStep11 (p b : Nat) (S : CSt) (s : Stp) (w : World) (e : Ending) (w' : World) : Prop := e = .returned (.int .i64 (stepE S s)) ∧ ChNext w w' p b (stepS S s)
theorem stepS_bad {S : CSt} {s : Stp} (h : stepE S s ≠ 0) : stepS S s = S := by unfold stepS; rw [if_pos h]

theorem check1s_c (kind id : Int) (lits hints : List Int) (A : Option Addr) (n c : Nat) (A' : Option Addr) (n' c' : Nat) (g : Nat) (w : World) (hb : Blk w g 42 #[.int .i64 kind, .int .i64 id, .slice A n c, .slice A' n' c']) (h : IntSl w A n lits) (h' : IntSl w A' n' hints) :
    Calls Try.prog 24 #[.slice (some ⟨g, 0, none⟩) 1 1] w fun e w' => e = .returned (.tuple #[.int .i64 (if mayV ⟨kind, id, lits, hints⟩ then 1 else 0), .int .i64 (if mayV ⟨kind, id, lits, hints⟩ then 0 else 2)]) ∧ Ext w w' :=
  proofCheck_c ⟨kind, id, lits, hints⟩ A n c A' n' c' g w hb h h'

set_option maxHeartbeats 4000000 in
theorem step_c (p b : Nat) (S : CSt) (s : Stp) (A : Option Addr) (n c : Nat) (A' : Option Addr) (n' c' : Nat) (w : World) (hm : CMem w p b S) (hi : Inv11 S) (hrl : S.rows.length ≤ 100000) (h : IntSl w A n s.lits) (h' : IntSl w A' n' s.hints) (hO : 0 < n' → Out (ChF p b) A') :
    Calls Try.prog 11 #[.pointer (some ⟨p, 0, none⟩), .agg #[.int .i64 s.kind, .int .i64 s.id, .slice A n c, .slice A' n' c']] w (RetStep11 p b S s w) := by
  obtain ⟨kind, id, lits, hints⟩ := s
  dsimp only at h h' ⊢
  have HX0 := Lib.hid ((Ext.refl w).alloc (Obj.cells #[.int .i64 kind, .int .i64 id, .slice A n c, .slice A' n' c'] 42))
  have HB0 := Lib.hid (Blk.new w 42 #[.int .i64 kind, .int .i64 id, .slice A n c, .slice A' n' c'])
  have HM := Lib.hid hm
  have HI := Lib.hid hi
  have HS := Lib.hid h
  have HS' := Lib.hid h'
  have HO := Lib.hid hO
  have HLN : Hid (lits.length = n) := h.1
  have HLN' : Hid (hints.length = n') := h'.1
  clear hm hi h h' hO
  have b0 := HB0.out.cell 0
  have b1 := HB0.out.cell 1
  have b2 := HB0.out.cell 2
  have b3 := HB0.out.cell 3
  cases hmay : mayV ⟨kind, id, lits, hints⟩ with
  | false =>
    have HY := Lib.hid hmay
    have HR : Hid (stepE S ⟨kind, id, lits, hints⟩ = 2) := by unfold Hid stepE; rw [hmay, if_pos rfl]
    clear hmay
    go_enter Try.func11, Try.ntmps11
    go_wp2_with fail
    refine (made_c _ p b S (HM.out.ext HX0.out)).mono ?_
    rintro e w1 ⟨rfl, rfl⟩
    go_wp2_with fail
    have HX1 := Lib.hid (HX0.out.alloc (Obj.cells #[.int .i64 kind, .int .i64 id, .slice A n c, .slice A' n' c'] 42))
    have hchk := check1s_c kind id lits hints A n c A' n' c' (w.heap.size + 1) _ (Blk.newg2 (w := w.alloc (Obj.cells #[.int .i64 kind, .int .i64 id, .slice A n c, .slice A' n' c'] 42)) 42 #[.int .i64 kind, .int .i64 id, .slice A n c, .slice A' n' c'] (by simp)) (HS.out.ext HX1.out) (HS'.out.ext HX1.out)
    refine hchk.mono ?_
    clear hchk
    rintro e w2 ⟨rfl, hx2⟩
    rw [HY.out]
    have HX2 := Lib.hid (HX1.out.trans hx2)
    clear hx2
    go_wp2_with fail
    go_ret
    exact ⟨ret_int HR.out.symm, by rw [stepS_bad (by rw [HR.out]; decide)]; exact add_nochange HM.out HX2.out⟩
  | true =>
    have HY := Lib.hid hmay
    by_cases hk : kind = 2
    · subst hk
      have HR : Hid (stepE S ⟨2, id, lits, hints⟩ = if dropOk S.rows hints then 0 else 20) := by unfold Hid; rw [stepE_may hmay, if_pos rfl]
      have hw : withinV hints 1 = true := by
        unfold mayV at hmay
        rw [if_neg (show ¬ ((2 : Int) = 1) by decide), if_pos rfl] at hmay
        simp only [Bool.and_eq_true] at hmay
        exact hmay.2
      obtain ⟨hw1, hw2⟩ := within_in hw (by decide)
      rw [HLN'.out] at hw1
      have HW := Lib.hid hw2
      clear hmay hw hw2
      go_enter Try.func11, Try.ntmps11
      go_wp2_with fail
      refine (made_c _ p b S (HM.out.ext HX0.out)).mono ?_
      rintro e w1 ⟨rfl, rfl⟩
      go_wp2_with fail
      have HX1 := Lib.hid (HX0.out.alloc (Obj.cells #[.int .i64 2, .int .i64 id, .slice A n c, .slice A' n' c'] 42))
      have hchk := check1s_c 2 id lits hints A n c A' n' c' (w.heap.size + 1) _ (Blk.newg2 (w := w.alloc (Obj.cells #[.int .i64 2, .int .i64 id, .slice A n c, .slice A' n' c'] 42)) 42 #[.int .i64 2, .int .i64 id, .slice A n c, .slice A' n' c'] (by simp)) (HS.out.ext HX1.out) (HS'.out.ext HX1.out)
      refine hchk.mono ?_
      clear hchk
      rintro e w2 ⟨rfl, hx2⟩
      rw [HY.out]
      have HX2 := Lib.hid (HX1.out.trans hx2)
      have hb2 := HB0.out.ext (((Ext.refl _).alloc _).trans hx2)
      have c0 := hb2.cell 0
      have c3 := hb2.cell 3
      clear hx2 b0 b1 b2 b3
      go_wp2_with fail
      refine (drop_c _ p b S _ _ _ hints (HM.out.ext HX2.out) HI.out (HS'.out.ext HX2.out) HO.out HW.out hw1).mono ?_
      rintro e w3 ⟨rfl, hm3, hst3⟩
      have HM3 := Lib.hid hm3
      have HST := Lib.hid (Stay.ext_trans HX2.out hst3)
      clear hm3 hst3
      obtain ⟨d, hd⟩ : ∃ d, dropOk S.rows hints = d := ⟨_, rfl⟩
      rw [hd] at HR HM3 ⊢
      clear hd
      cases d
      · go_wp2_with fail
        go_ret
        exact ⟨ret_int HR.out.symm, by rw [stepS_bad (by rw [HR.out]; decide)]; exact ⟨HM3.out, HST.out⟩⟩
      · go_wp2_with fail
        go_ret
        exact ⟨ret_int HR.out.symm, by unfold stepS; rw [if_neg (by rw [HR.out]; decide), if_pos rfl]; exact ⟨HM3.out, HST.out⟩⟩
    · have hk1 := may_kind hmay hk
      dsimp only at hk1
      subst hk1
      obtain ⟨hm1, hm2, hm3, hm4⟩ := may_add hmay rfl
      dsimp only at hm1 hm2 hm3 hm4
      have hls := (ccheck_lits (by decide) hm3).1
      rw [HLN.out] at hls
      obtain ⟨hw1, hw2⟩ := within_in hm4 (by decide)
      rw [HLN'.out] at hw1
      have HW := Lib.hid hw2
      have HR : Hid (stepE S ⟨1, id, lits, hints⟩ = addE S ⟨1, id, lits, hints⟩) := by unfold Hid; rw [stepE_may hmay, if_neg (by simp)]
      clear hmay hw2 hm3 hm4 hk
      go_enter Try.func11, Try.ntmps11
      go_wp2_with fail
      refine (made_c _ p b S (HM.out.ext HX0.out)).mono ?_
      rintro e w1 ⟨rfl, rfl⟩
      go_wp2_with fail
      have HX1 := Lib.hid (HX0.out.alloc (Obj.cells #[.int .i64 1, .int .i64 id, .slice A n c, .slice A' n' c'] 42))
      have hchk := check1s_c 1 id lits hints A n c A' n' c' (w.heap.size + 1) _ (Blk.newg2 (w := w.alloc (Obj.cells #[.int .i64 1, .int .i64 id, .slice A n c, .slice A' n' c'] 42)) 42 #[.int .i64 1, .int .i64 id, .slice A n c, .slice A' n' c'] (by simp)) (HS.out.ext HX1.out) (HS'.out.ext HX1.out)
      refine hchk.mono ?_
      clear hchk
      rintro e w2 ⟨rfl, hx2⟩
      rw [HY.out]
      have HX2 := Lib.hid (HX1.out.trans hx2)
      have hb2 := HB0.out.ext (((Ext.refl _).alloc _).trans hx2)
      have c0 := hb2.cell 0
      have c1 := hb2.cell 1
      have c2 := hb2.cell 2
      have c3 := hb2.cell 3
      clear hx2 b0 b1 b2 b3
      go_wp2_with fail
      refine (add_c p b S ⟨1, id, lits, hints⟩ _ _ _ _ _ _ _ (HM.out.ext HX2.out) HI.out hrl (HS.out.ext HX2.out) (HS'.out.ext HX2.out) hls hw1 HW.out hm2).mono ?_
      rintro e w3 ⟨rfl, hm3, hst3⟩
      have HM3 := Lib.hid hm3
      have HST := Lib.hid (Stay.ext_trans HX2.out hst3)
      clear hm3 hst3
      go_wp2_with fail
      go_ret
      refine ⟨ret_int HR.out.symm, ?_, HST.out⟩
      have := HM3.out
      rw [← HR.out] at this
      exact this
end Go.Proofs.Ytdgflniahoidmaa
