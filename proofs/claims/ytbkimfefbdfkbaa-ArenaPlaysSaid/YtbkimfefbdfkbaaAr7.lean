/- Layer 12 (arena): Swap. -/
import Derived.Test.YtbkimfefbdfkbaaAr6
import Derived.BigRegion
set_option maxRecDepth 100000
namespace Go.Proofs.Ytbkimfefbdfkbaa
open Go.RowKit Go.Maps

theorem ArMem.setLit {w : World} {base p mb K g cap n i a : Nat} {S : ASt} {r : ARow} {y : Int} (h : ArMem w base p mb (.slice (some ⟨g, 0, none⟩) n cap) K S) (hr : S.rows[i]? = some r) (hl : r.live = true) (ha : a < r.lits.length) (hy : -100000 ≤ y ∧ y ≤ 100000) :
    ArMem (w.setCell ⟨g, (flatA (S.rows.take i)).length + 3 + a, none⟩ (.int .i64 y)) base p mb (.slice (some ⟨g, 0, none⟩) n cap) K ⟨S.rows.set i { r with lits := r.lits.set a y }, S.size⟩ := by
  have hp := h.inv.pos i r hr
  have hok := h.inv.ok r (List.mem_of_getElem? hr)
  have hf : S.rows.findIdx? (atP r.pos) = some i := by
    have e := (find_iff h.inv).2 ⟨i, hr, rfl, hl⟩
    obtain ⟨j, g0, g1, g2, _⟩ := find_at e
    have := h.inv.inj hr g1 g2.symm
    rw [this]; exact g0
  have hst := step_inv h.inv hf hr (fun r => { r with lits := r.lits.set a y }) rfl (by simp) rfl (fun z hz => by
    rcases List.mem_or_eq_of_mem_set hz with hm | rfl
    · exact hok.2.2 z hm
    · exact hy)
  have henc : encR { r with lits := r.lits.set a y } = (encR r).set (3 + a) y := by
    rw [Nat.add_comm]
    simp [encR, sideA]
  refine h.put rfl hst.2 (by show (S.rows.set i _).length ≤ K; rw [List.length_set]; exact h.sm) ?_ fun z => ?_
  · rw [Nat.add_assoc]
    exact arow_set hr (by rw [encR_len]; omega) henc
  · show headA (S.rows.set i _) z = _
    unfold headA
    rw [find_set h.inv hst.2 hr rfl z]
    by_cases e : z = r.pos
    · rw [if_pos e, if_pos hl]
      have := (find_iff h.inv).2 ⟨i, hr, e.symm, hl⟩
      rw [this]
    · rw [if_neg e]
theorem ArMem.up {w : World} {base p mb K : Nat} {lv : Value} {S : ASt} (h : ArMem w base p mb lv K S) (hK : K + 1 ≤ 1000000) : ArMem w base p mb lv (K + 1) S :=
  ⟨h.blk, h.row, h.heads.mono (by omega), h.bp, h.bm, h.inv, by have := h.sm; omega, hK⟩
theorem swap_end {w : World} {base p mb K g n cap x y : Nat} {S' : ASt} {u v : Int} (hm : ArMem ((w.setCell ⟨g, x, none⟩ (.int .i64 u)).setCell ⟨g, y, none⟩ (.int .i64 v)) base p mb (.slice (some ⟨g, 0, none⟩) n cap) K S') (hK : K + 1 ≤ 1000000) :
    ArNext w ((w.setCell ⟨g, x, none⟩ (.int .i64 u)).setCell ⟨g, y, none⟩ (.int .i64 v)).drew base p mb (.slice (some ⟨g, 0, none⟩) n cap) (K + 1) S' :=
  ⟨_, mb, (hm.ext (Ext.refl _).drew).up hK, (((Stay.refl (ArF p mb (.slice (some ⟨g, 0, none⟩) n cap)) w).setCell (p := ⟨g, x, none⟩) (Or.inl (Or.inr (Or.inr rfl))) (.int .i64 u)).setCell (p := ⟨g, y, none⟩) (Or.inl (Or.inr (Or.inr rfl))) (.int .i64 v)).drew, fun _ hb => Or.inl hb⟩
theorem swap_set (l : List Int) (a b : Nat) (x y : Int) (ha : l[a]? = some x) (hb : l[b]? = some y) : swapL l a b = (l.set a y).set b x := by
  unfold swapL
  rw [List.getD_eq_getElem?_getD, List.getD_eq_getElem?_getD, ha, hb]; rfl

set_option maxHeartbeats 4000000 in
theorem arSwap_c (w : World) (base p mb : Nat) (lv : Value) (K : Nat) (S : ASt) (x i1 i2 : Int) (h : ArMem w base p mb lv K S) (hx : -9223372036854775808 ≤ x ∧ x ≤ 9223372036854775807) (hK : K + 1 ≤ 1000000) :
    Calls Try.prog 34 #[.pointer (some ⟨p, 0, none⟩), .int .i64 x, .int .i64 i1, .int .i64 i2] w fun e w' => e = .returned (.int .i64 (swapE S x i1 i2)) ∧ ArNext w w' base p mb lv (K + 1) (swapS S x i1 i2) := by
  have c0 := h.blk.cell 0
  have H := Lib.hid h
  cases hr : S.rows.find? (atP x) with
  | none =>
    have HD : Hid (dropE S x = 20) := by unfold Hid dropE; rw [hr]
    have HE : Hid (swapE S x i1 i2 = 20) := by unfold Hid swapE; rw [hr]
    have HS : Hid (swapS S x i1 i2 = S) := by unfold Hid swapS; rw [HE.out, if_neg (by decide)]
    clear hr h
    go_enter Try.func34, Try.ntmps34
    go_wp2_with (go_at_call 65; (with_reducible refine (arWhy_c _ base p mb lv K S x H.out hx).mono ?_); rintro e w' ⟨rfl, rfl⟩; rw [HD.out])
    go_ret
    exact ⟨ret_int HE.out.symm, by rw [HS.out]; exact ArNext.refl H.out (Ext.refl _) hK⟩
  | some r =>
    have HD : Hid (dropE S x = 0) := by unfold Hid dropE; rw [hr]
    have hsw : swapE S x i1 i2 = if i1 < 0 ∨ i2 < 0 ∨ (r.lits.length : Int) ≤ i1 ∨ (r.lits.length : Int) ≤ i2 then 2 else 0 := by unfold swapE; rw [hr]
    obtain ⟨g, cap, i, j, hij, rfl, hc, rfl, hle, _, d1, _, d3, hf⟩ := h.at_ hr
    have hln := h.len
    obtain ⟨q1, q2, q3, q4⟩ := hij.out
    have hok := h.inv.ok r (List.mem_of_getElem? q2)
    obtain ⟨_, hl1, hlb⟩ := hok
    have c0' : w.cell? ⟨p, 0, none⟩ = some (.slice (some ⟨g, 0, none⟩) (flatA S.rows).length cap) := c0
    by_cases hbad : i1 < 0 ∨ i2 < 0 ∨ (r.lits.length : Int) ≤ i1 ∨ (r.lits.length : Int) ≤ i2
    · have HE : Hid (swapE S (j : Int) i1 i2 = 2) := by unfold Hid; rw [hsw, if_pos hbad]
      have HS : Hid (swapS S (j : Int) i1 i2 = S) := by unfold Hid swapS; rw [HE.out, if_neg (by decide)]
      have hcase : (i1 < i2 ∧ ¬ i2 < i1 ∧ i1 < 0) ∨ (i1 < i2 ∧ ¬ i2 < i1 ∧ ¬ i1 < 0 ∧ (r.lits.length : Int) ≤ i2) ∨ (¬ i1 < i2 ∧ i2 < i1 ∧ i2 < 0) ∨ (¬ i1 < i2 ∧ i2 < i1 ∧ ¬ i2 < 0 ∧ (r.lits.length : Int) ≤ i1) ∨ (i1 = i2 ∧ (i1 < 0 ∨ ¬ i1 < 0 ∧ (r.lits.length : Int) ≤ i1)) := by omega
      clear hr h hij hf d3 hsw hlb hbad q1 q2 q3 q4
      generalize (flatA S.rows).length = n at c0 c0' hle hc hln H
      generalize r.lits.length = m at hcase d1 hle hl1
      rcases hcase with ⟨t1, t2, t3⟩ | ⟨t1, t2, t3, t4⟩ | ⟨t1, t2, t3⟩ | ⟨t1, t2, t3, t4⟩ | ⟨rfl, t3 | ⟨t3, t4⟩⟩
      all_goals
        go_enter Try.func34, Try.ntmps34
        go_wp2_with (go_at_call 65; (with_reducible refine (arWhy_c _ base p mb _ K S _ H.out hx).mono ?_); rintro e w' ⟨rfl, rfl⟩; rw [HD.out])
        refine (arView_c _ p g n cap j m c0' d1 hle hc hln).mono ?_
        rintro e w' ⟨rfl, rfl⟩
        generalize (if m = 0 then 0 else j + 3) = o
        go_wp2
        go_ret
        exact ⟨ret_int HE.out.symm, by rw [HS.out]; exact ArNext.refl H.out (Ext.refl _) hK⟩
    · have HE : Hid (swapE S (j : Int) i1 i2 = 0) := by unfold Hid; rw [hsw, if_neg hbad]
      obtain ⟨a, rfl⟩ := Int.eq_ofNat_of_zero_le (show 0 ≤ i1 by omega)
      obtain ⟨b, rfl⟩ := Int.eq_ofNat_of_zero_le (show 0 ≤ i2 by omega)
      have ha : a < r.lits.length := by omega
      have hb : b < r.lits.length := by omega
      have hst := step_inv h.inv q1 q2 (fun r => { r with lits := swapL r.lits a b }) rfl (by simp [swapL]) rfl (fun y hy => by
        have hga : r.lits[a]? = some r.lits[a] := List.getElem?_eq_getElem ha
        have hgb : r.lits[b]? = some r.lits[b] := List.getElem?_eq_getElem hb
        have hy' : y ∈ (r.lits.set a r.lits[b]).set b r.lits[a] := by rw [← swap_set _ _ _ _ _ hga hgb]; exact hy
        rcases List.mem_or_eq_of_mem_set hy' with hm | rfl
        · rcases List.mem_or_eq_of_mem_set hm with hm | rfl
          · exact hlb y hm
          · exact hlb _ (List.getElem_mem hb)
        · exact hlb _ (List.getElem_mem ha))
      have HS : Hid (swapS S (j : Int) (a : Int) (b : Int) = ⟨S.rows.set i { r with lits := swapL r.lits a b }, S.size⟩) := by
        unfold Hid swapS
        rw [HE.out, if_pos rfl, Int.toNat_natCast, Int.toNat_natCast, hst.1]
      obtain ⟨u, hu⟩ : ∃ u, r.lits[a]? = some u := ⟨r.lits[a], List.getElem?_eq_getElem ha⟩
      obtain ⟨v, hv⟩ : ∃ v, r.lits[b]? = some v := ⟨r.lits[b], List.getElem?_eq_getElem hb⟩
      have ub := hlb u (List.mem_of_getElem? hu)
      have vb := hlb v (List.mem_of_getElem? hv)
      have e1 := d3 a u hu
      have e2 := d3 b v hv
      have f1 := hf (j + 3 + a)
      have f2 := hf (j + 3 + b)
      have hm1 := H.out.setLit (y := v) q2 q4 ha vb
      have hm2 := hm1.setLit (i := i) (r := { r with lits := r.lits.set a v }) (a := b) (y := u) (by rw [List.getElem?_set_self (List.getElem?_eq_some_iff.1 q2).1]) q4 (by simpa using hb) ub
      have htk : (flatA ((S.rows.set i { r with lits := r.lits.set a v }).take i)).length = (flatA (S.rows.take i)).length := by rw [List.take_set_of_le (Nat.le_refl _)]
      dsimp only at hm2
      rw [htk, List.set_set, ← q3, ← swap_set _ _ _ _ _ hu hv] at hm2
      have HM2 := Lib.hid hm2
      have hm0 : ¬ r.lits.length = 0 := by omega
      clear hr h hij hf d3 hsw hlb hbad q1 q2 q3 q4 hst hu hv ub vb hm1 hm2 htk
      generalize (flatA S.rows).length = n at c0 c0' hle hc hln H HM2
      generalize r.lits.length = m at d1 hle hl1 ha hb hm0
      have a0 : (0 : Int) ≤ (a : Int) := by omega
      have a1 : (a : Int) < (m : Int) := by omega
      have b0 : (0 : Int) ≤ (b : Int) := by omega
      have b1 : (b : Int) < (m : Int) := by omega
      go_enter Try.func34, Try.ntmps34
      go_wp2_with (go_at_call 65; (with_reducible refine (arWhy_c _ base p mb _ K S _ H.out hx).mono ?_); rintro e w' ⟨rfl, rfl⟩; rw [HD.out])
      refine (arView_c _ p g n cap j m c0' d1 hle hc hln).mono ?_
      rintro e w' ⟨rfl, rfl⟩
      rw [if_neg hm0]
      by_cases hab : a = b
      · subst hab
        have huv : u = v := by rw [e1] at e2; injection e2 with e2; injection e2
        subst huv
        go_wp2
        go_region
        all_goals
          go_wp2
          go_ret
          exact ⟨ret_int HE.out.symm, by rw [HS.out]; exact swap_end HM2.out hK⟩
      · have hba : ¬ b = a := fun e => hab e.symm
        have g1 : (⟨g, j + 3 + a, none⟩ : Addr) ≠ ⟨g, j + 3 + b, none⟩ := by intro e; injection e with _ e; omega
        have g2 : (⟨g, j + 3 + b, none⟩ : Addr) ≠ ⟨g, j + 3 + a, none⟩ := Ne.symm g1
        go_wp2
        all_goals go_region
        all_goals
          go_wp2
          go_ret
          exact ⟨ret_int HE.out.symm, by rw [HS.out]; exact swap_end HM2.out hK⟩
end Go.Proofs.Ytbkimfefbdfkbaa
