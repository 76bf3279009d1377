/- Layer 13 (trail): Decide, Imply. -/
import Derived.Test.YtbkimfefbdfkbaaTrail3
import Derived.Deep.RegionLaw
set_option maxRecDepth 100000
namespace Go.Proofs.Ytbkimfefbdfkbaa
open Go.RowKit

theorem beg_end {W W2 w3 : World} {base p gm : Nat} {lv bv v' : Value} {vars : Nat} {rows : List TRow} {bs bs' : List Int} (hM0 : TrMem W base p gm lv bv vars rows bs) (hx : Ext W W2)
    (hg3 : W2.grownBy w3 bv.ownBlock) (ho : OwnI w3 base v' bs') (hloc : v'.ownBlock = bv.ownBlock ∨ v'.ownBlock = some W2.heap.size)
    (hsm : bs'.length ≤ 1000000000) (hbb : ∀ x ∈ bs', 0 ≤ x ∧ x ≤ 1000000000) : TrTurn W (w3.setCell ⟨p, 2, none⟩ v') base p gm lv bv vars rows bs' := by
  have hM := hM0.ext hx
  obtain ⟨cs, hgm, hok⟩ := hM.mks
  have npg : p ≠ gm := hM.blk.ne_ hgm (by decide)
  have lp : lv.ownBlock ≠ some p := hM.lits.ne_blk hM.blk (by decide)
  have bp' : bv.ownBlock ≠ some p := hM.beg.ne_blk hM.blk (by decide)
  have bg' : bv.ownBlock ≠ some gm := hM.beg.ne_blk hgm (by decide)
  have hp3 := hM.blk.grown hg3 (Ne.symm bp')
  have hp4 := hp3.set_ 2 v'
  have hg3' := hgm.grown hg3 (Ne.symm bg')
  have hg4 := hg3'.far (p := ⟨p, 2, none⟩) (Ne.symm npg) v'
  have vp : v'.ownBlock ≠ some p := ho.ne_blk hp3 (by decide)
  have hl3 := hM.lits.kept hg3 hM.ap.kept
  have gset : w3.grownBy (w3.setCell ⟨p, 2, none⟩ v') (some p) := ⟨rfl, rfl, rfl, by rw [World.size_setCell]; exact Nat.le_refl _, fun k _ hk => Below.heap_setCell w3 _ v' k (fun e => hk (by rw [e]))⟩
  have S0 : Stay (TrF p gm lv bv) W W2 := hx.stay
  have S2 := S0.grown hg3 (fun k e => Or.inl (Or.inr (Or.inr (Or.inr e))))
  have S3 := S2.grown gset (fun k e => by cases e; exact Or.inl (Or.inl rfl))
  refine ⟨lv, v', ⟨hp4, ⟨cs, hg4, hok⟩, hl3.kept gset (Or.inr lp), ho.kept gset (Or.inr vp), (hM.ap.symm.grow hloc (fun k e => (hM.lits.blk k e).2)).symm, hM.bp, hM.bg, hM.ok, hM.sm, hsm, hbb, hM.vs⟩, S3, fun b hb => ?_⟩
  rcases hb with hb | hb | hb | hb
  · exact Or.inl (Or.inl hb)
  · exact Or.inl (Or.inr (Or.inl hb))
  · exact Or.inl (Or.inr (Or.inr (Or.inl hb)))
  · rcases hloc with e | e
    · exact Or.inl (Or.inr (Or.inr (Or.inr (e ▸ hb))))
    · rw [e] at hb; injection hb with hb; exact Or.inr (by have := hx.size_le; omega)
theorem TrTurn.next {w w1 w2 : World} {base p gm : Nat} {lv bv lv1 bv1 : Value} {vars : Nat} {rows : List TRow} {bs : List Int} (S1 : Stay (TrF p gm lv bv) w w1) (F1 : ∀ b, TrF p gm lv1 bv1 b → TrF p gm lv bv b ∨ w.heap.size ≤ b)
    (h : TrTurn w1 w2 base p gm lv1 bv1 vars rows bs) : TrTurn w w2 base p gm lv bv vars rows bs := by
  obtain ⟨a, b, h1, h2, h3⟩ := h
  refine ⟨a, b, h1, S1.trans h2 (fun j hj hf => by rcases F1 j hf with e | e; exact e; omega), fun k hk => ?_⟩
  rcases h3 k hk with e | e
  · exact F1 k e
  · exact Or.inr (Nat.le_trans S1.size e)

set_option maxRecDepth 100000 in
set_option maxHeartbeats 2000000 in
theorem trDecide_c (w : World) (base p gm : Nat) (lv bv : Value) (S : TSt) (vars : Nat) (bs : List Int) (l : Int) (hv : S.vars = vars) (h : TrMem w base p gm lv bv vars S.rows bs) (hI : TInv S) (hb : beginsOk S.rows S.depth bs) (hsm : S.rows.length < 1000000000) (hsb : bs.length < 1000000000) :
    Calls Try.prog 39 #[.pointer (some ⟨p, 0, none⟩), .int .i64 l] w fun e w' => e = .returned (.int .i64 (mayV S l)) ∧ ∃ bs', TrTurn w w' base p gm lv bv vars (decT S l).rows bs' ∧ beginsOk (decT S l).rows (decT S l).depth bs' := by
  obtain ⟨sv, rows, depth⟩ := S
  obtain rfl : sv = vars := hv
  by_cases hm : mayV ⟨vars, rows, depth⟩ l = 0
  · obtain ⟨hc, hn⟩ := may_ok hm
    have HM := Lib.hid hm
    have HC := Lib.hid hc
    have HN := Lib.hid hn
    clear hm hc hn
    go_enter Try.func39, Try.ntmps39
    go_wp2_with fail
    refine (trMay_c _ base p gm lv bv vars rows bs depth l h).mono ?_
    rintro e w1 ⟨rfl, hx1⟩
    rw [HM.out]
    have h1 := h.ext hx1
    obtain ⟨Al, nl, cl, rfl, hl, hlc, hnl⟩ := h1.lsl
    obtain ⟨Ab, nb, cb, rfl, hbb, hbc, hnb⟩ := h1.bsl
    subst hnl
    subst hnb
    have c1 := h1.blk.cell 1
    have c2 := h1.blk.cell 2
    go_wp2
    have d2 := (h1.ext ((Ext.refl w1).alloc (Obj.cells #[Value.int .i64 (rows.length : Nat)] 3))).blk.cell 2
    have HX1 := Lib.hid hx1
    have H1 := Lib.hid h1
    have hsz : base ≤ w1.heap.size := by have := h1.blk.lt; have := h1.bp; omega
    have bp' := h1.beg.ne_blk h1.blk (by decide)
    clear hx1 hl hbb
    go_region_law
      ((refine step_append1 _ (by rfl) (.tmp 15) (.tmp 21) (by rfl) base _ bs (by rfl) (H1.out.beg.ext (by (repeat (first | with_reducible exact Ext.refl _ | with_reducible apply Ext.alloc | with_reducible apply Ext.drew | with_reducible apply Ext.drewN | (apply Ext.trans'; assumption))))) _ _ _ (by rfl) (by first | exact cell_one _ _ _ | go_simp) (by omega) (by omega) (by simp; omega) ?_; intro A3 n3 c3 w3 ho3 hg3 hloc; have hp3 := (H1.out.blk.ext (show Ext w1 _ by (repeat (first | with_reducible exact Ext.refl _ | with_reducible apply Ext.alloc | with_reducible apply Ext.drew | with_reducible apply Ext.drewN | (apply Ext.trans'; assumption))))).grown hg3 (Ne.symm bp'); have s1 := hp3.cell 1; have s2 := hp3.cell 2; have f2 := hp3.frozen 2; clear hp3; have HO3 := Lib.hid ho3; have HG3 := Lib.hid hg3; have HLOC := Lib.hid hloc; clear ho3 hg3 hloc))
    all_goals
      have hT := beg_end H1.out (show Ext w1 _ by (repeat (first | with_reducible exact Ext.refl _ | with_reducible apply Ext.alloc | with_reducible apply Ext.drew | with_reducible apply Ext.drewN | (apply Ext.trans'; assumption)))) HG3.out HO3.out HLOC.out (by simp; omega) (by
        intro x hx
        rcases List.mem_append.1 hx with hx | hx
        · exact H1.out.bb x hx
        · rw [List.mem_singleton.1 hx]; omega)
      obtain ⟨lv2, bv2, M2, S2, F2⟩ := hT
      go_wp2_with fail
      refine (trPut_c _ base p gm lv2 bv2 vars rows _ l (-1) M2 HC.out HN.out hsm).mono ?_
      rintro e w4 ⟨rfl, hT4⟩
      have hT5 := Lib.hid (TrTurn.before HX1.out (hT4.next S2 F2))
      clear M2 S2 F2 hT4
      go_wp2
      go_ret
      have hd : ((bs ++ [(rows.length : Int)]).length : Int) = depth + 1 := by have := hb.1; simp at this ⊢; omega
      refine ⟨ret_int HM.out.symm, bs ++ [(rows.length : Int)], ?_, ?_⟩
      · unfold decT; rw [if_pos HM.out]
        have := hT5.out
        rw [hd] at this
        exact this
      · unfold decT; rw [if_pos HM.out]; exact begins_dec hI hb l (-1)
  · have hmb : (mayV ⟨vars, rows, depth⟩ l == 0) = false := by simpa using hm
    have HM := Lib.hid hm
    clear hm
    go_enter Try.func39, Try.ntmps39
    go_wp2_with fail
    refine (trMay_c _ base p gm lv bv vars rows bs depth l h).mono ?_
    rintro e w1 ⟨rfl, hx1⟩
    go_wp2
    go_ret
    refine ⟨rfl, bs, ?_, ?_⟩
    · unfold decT; rw [if_neg HM.out]; exact ⟨lv, bv, h.ext hx1, hx1.stay, fun b hb => Or.inl hb⟩
    · unfold decT; rw [if_neg HM.out]; exact hb

set_option maxHeartbeats 2000000 in
theorem trImply_c (w : World) (base p gm : Nat) (lv bv : Value) (S : TSt) (vars : Nat) (bs : List Int) (l rs : Int) (hv : S.vars = vars) (h : TrMem w base p gm lv bv vars S.rows bs) (hb : beginsOk S.rows S.depth bs) (hsm : S.rows.length < 1000000000) :
    Calls Try.prog 40 #[.pointer (some ⟨p, 0, none⟩), .int .i64 l, .int .i64 rs] w fun e w' => e = .returned (.int .i64 (impE S l rs)) ∧ TrTurn w w' base p gm lv bv vars (impT S l rs).rows bs ∧ beginsOk (impT S l rs).rows (impT S l rs).depth bs := by
  obtain ⟨sv, rows, depth⟩ := S
  obtain rfl : sv = vars := hv
  by_cases hm : mayV ⟨vars, rows, depth⟩ l = 0
  · by_cases hr : rs < 0
    · have HE : Hid (impE ⟨vars, rows, depth⟩ l rs = 2) := by unfold Hid impE; rw [if_neg (by simp [hm]), if_pos hr]
      have HM := Lib.hid hm
      clear hm
      go_enter Try.func40, Try.ntmps40
      go_wp2_with fail
      refine (trMay_c _ base p gm lv bv vars rows bs depth l h).mono ?_
      rintro e w1 ⟨rfl, hx1⟩
      rw [HM.out]
      go_wp2
      go_ret
      refine ⟨ret_int HE.out.symm, ?_, ?_⟩
      · unfold impT; rw [if_neg (by rw [HE.out]; decide)]; exact ⟨lv, bv, h.ext hx1, hx1.stay, fun b hb => Or.inl hb⟩
      · unfold impT; rw [if_neg (by rw [HE.out]; decide)]; exact hb
    · have HE : Hid (impE ⟨vars, rows, depth⟩ l rs = 0) := by unfold Hid impE; rw [if_neg (by simp [hm]), if_neg hr]
      obtain ⟨hc, hn⟩ := may_ok hm
      have HM := Lib.hid hm
      have HC := Lib.hid hc
      have HN := Lib.hid hn
      clear hm hc hn
      go_enter Try.func40, Try.ntmps40
      go_wp2_with fail
      refine (trMay_c _ base p gm lv bv vars rows bs depth l h).mono ?_
      rintro e w1 ⟨rfl, hx1⟩
      rw [HM.out]
      go_wp2_with fail
      refine (trPut_c _ base p gm lv bv vars rows bs l rs (h.ext hx1) HC.out HN.out hsm).mono ?_
      rintro e w2 ⟨rfl, hT⟩
      have HT := Lib.hid (hT.before hx1)
      clear hT
      go_wp2
      go_ret
      have hd : (bs.length : Int) = depth := hb.1
      refine ⟨ret_int HE.out.symm, ?_, ?_⟩
      · unfold impT; rw [if_pos HE.out]
        have := HT.out
        rw [hd] at this
        exact this
      · unfold impT; rw [if_pos HE.out]; exact begins_imp hb l rs
  · have HE : Hid (impE ⟨vars, rows, depth⟩ l rs = mayV ⟨vars, rows, depth⟩ l) := by unfold Hid impE; rw [if_pos hm]
    have hmb : (mayV ⟨vars, rows, depth⟩ l == 0) = false := by simpa using hm
    have HM := Lib.hid hm
    clear hm
    go_enter Try.func40, Try.ntmps40
    go_wp2_with fail
    refine (trMay_c _ base p gm lv bv vars rows bs depth l h).mono ?_
    rintro e w1 ⟨rfl, hx1⟩
    go_wp2
    go_ret
    refine ⟨ret_int HE.out.symm, ?_, ?_⟩
    · unfold impT; rw [if_neg (by rw [HE.out]; exact HM.out)]; exact ⟨lv, bv, h.ext hx1, hx1.stay, fun b hb => Or.inl hb⟩
    · unfold impT; rw [if_neg (by rw [HE.out]; exact HM.out)]; exact hb
end Go.Proofs.Ytbkimfefbdfkbaa
