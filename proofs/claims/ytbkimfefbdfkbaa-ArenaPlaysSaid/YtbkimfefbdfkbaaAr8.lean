/- Layer 12 (arena): Put. -/
import Derived.Test.YtbkimfefbdfkbaaAr7
set_option maxRecDepth 100000
namespace Go.Proofs.Ytbkimfefbdfkbaa
open Go.RowKit Go.Maps

theorem put_ok {id : Int} {lits : List Int} (h : putE id lits = 0) : (1 ≤ id ∧ id ≤ 10000000) ∧ lits.length ≤ 1000 ∧ ∀ x ∈ lits, -100000 ≤ x ∧ x ≤ 100000 := by
  unfold putE at h
  by_cases h1 : id < 1 ∨ 10000000 < id
  · rw [if_pos h1] at h; cases h
  · rw [if_neg h1] at h
    obtain ⟨_, h2, h3⟩ := cCheckV_ok h
    exact ⟨by omega, h2, fun x hx => by have := checkV_ok (h3 x hx); omega⟩
theorem put_inv {S : ASt} (h : AInv S) {id : Int} {lits : List Int} (hp : putE id lits = 0) (b : Bool) : AInv ⟨S.rows ++ [ARow.mk S.size id lits b true], S.size + 3 + lits.length⟩ := by
  have hk := put_ok hp
  refine ⟨fun i r hr => ?_, ?_, fun r hr => ?_⟩
  · have hr' : (S.rows ++ [ARow.mk S.size id lits b true])[i]? = some r := hr
    show r.pos = (((flatA ((S.rows ++ [ARow.mk S.size id lits b true]).take i)).length : Nat) : Int)
    by_cases hi : i < S.rows.length
    · rw [List.getElem?_append_left hi] at hr'
      rw [List.take_append_of_le_length (by omega)]
      exact h.pos i r hr'
    · rw [List.getElem?_append_right (by omega)] at hr'
      have hl := (List.getElem?_eq_some_iff.1 hr').1
      simp at hl
      have e : i = S.rows.length := by omega
      subst e
      simp at hr'
      rw [← hr', List.take_left']
      · exact h.size
      · rfl
  · show S.size + 3 + (lits.length : Int) = (((flatA (S.rows ++ [ARow.mk S.size id lits b true])).length : Nat) : Int)
    rw [flatA_snoc, List.length_append, encR_len, h.size]
    simp; omega
  · rcases List.mem_append.1 hr with hr | hr
    · exact h.ok r hr
    · rw [List.mem_singleton.1 hr]
      exact hk
theorem head_put {S : ASt} (h : AInv S) {id : Int} {lits : List Int} (hp : putE id lits = 0) (b : Bool) (z : Int) : headA (S.rows ++ [ARow.mk S.size id lits b true]) z = if z = S.size then id else headA S.rows z := by
  have hi := put_inv h hp b
  have iff' : ∀ {a : ARow}, (S.rows ++ [ARow.mk S.size id lits b true]).find? (atP z) = some a ↔ ∃ j : Nat, (S.rows ++ [ARow.mk S.size id lits b true])[j]? = some a ∧ a.pos = z ∧ a.live = true := find_iff hi
  unfold headA
  by_cases e : z = S.size
  · rw [if_pos e, (iff' (a := ARow.mk S.size id lits b true)).2 ⟨S.rows.length, by simp, e.symm, rfl⟩]
  · rw [if_neg e, List.find?_append]
    have hn : [ARow.mk S.size id lits b true].find? (atP z) = none := by
      simp [atP, Ne.symm e]
    rw [hn, Option.or_none]

theorem IntSl.stay0 {w w' : World} {F : Nat → Prop} {A : Option Addr} {n : Nat} {xs : List Int} (h : IntSl w A n xs) (hs : Stay F w w') (ho : 0 < n → Out F A) : IntSl w' A n xs := by
  rcases Nat.eq_zero_or_pos n with h0 | h0
  · exact ⟨h.1, h.2.1, h.2.2.1, fun hp => by omega⟩
  · exact h.stay hs (ho h0)
/-- A clause was put: what turned. -/
theorem put_end {w w1 W w3 w4 w6 : World} {base p mb K : Nat} {lv v3 v4 : Value} {S S' : ASt} {ys : List Int} {f : Int → Int} (hm1 : ArMem w1 base p mb lv K S) (hx1 : Ext w w1) (hW : Ext w1 W) (ho3 : OwnI w3 base v3 ys) (hg3 : W.grownBy w3 lv.ownBlock)
    (hl3 : ∀ k, v3.ownBlock = some k → lv.ownBlock = some k ∨ W.heap.size ≤ k) (ho4 : OwnI w4 base v4 (flatA S'.rows)) (hg4 : w3.grownBy w4 v3.ownBlock) (hl4 : v4.ownBlock = v3.ownBlock ∨ v4.ownBlock = some w3.heap.size)
    (hc6 : Cnt w6 mb (K + 1) f) (hf : ∀ z, f z = headA S'.rows z) (hg6 : (w4.setCell ⟨p, 0, none⟩ v4).grownBy w6 (some mb)) (hi : AInv S') (hlen : S'.rows.length ≤ K + 1) (hK : K + 1 ≤ 1000000) : ArNext w w6 base p mb lv (K + 1) S' := by
  have hmW := hm1.ext hW
  have hb3 := hmW.blk.grown hg3 (Ne.symm (hmW.row.ne_blk hmW.blk (by decide)))
  have hb4 := hb3.grown hg4 (Ne.symm (ho3.ne_blk hb3 (by decide)))
  have hb5 := hb4.set_ 0 v4
  have npm : p ≠ mb := fun e => hm1.heads.ne_blk2 hm1.blk e.symm
  have hb6 := hb5.grown hg6 (by simpa using npm)
  have hp4 := ho4.ne_blk hb4 (by decide)
  have hm3 : Cnt w3 mb K (headA S.rows) := hmW.heads.grown hg3 (Ne.symm (hmW.heads.ne_row hmW.row))
  have hm4 : Cnt w4 mb K (headA S.rows) := hm3.grown hg4 (Ne.symm (hm3.ne_row (RowI.of_own ho3)))
  have ho5 := ho4.setCell (p := ⟨p, 0, none⟩) (fun k e hk => hp4 (by rw [e, hk])) v4
  have hm5 : Cnt (w4.setCell ⟨p, 0, none⟩ v4) mb K (headA S.rows) := hm4.keep (Below.heap_setCell w4 ⟨p, 0, none⟩ _ mb (Ne.symm npm))
  have ho6 := ho5.kept hg6 (Or.inr (hm5.ne_row (RowI.of_own ho5)))
  have s1 := hx1.size_le
  have s2 := hW.size_le
  have s3 := hg3.size
  have F3 : ∀ k, v3.ownBlock = some k → ArF p mb lv k ∨ w.heap.size ≤ k := fun k e => by
    rcases hl3 k e with e | e
    · exact Or.inl (Or.inr (Or.inr e))
    · exact Or.inr (by omega)
  refine ⟨v4, mb, ⟨hb6, RowI.of_own ho6, hc6.congr hf, hm1.bp, hm1.bm, hi, hlen, hK⟩, ?_, fun b hb => ?_⟩
  · refine Stay.grown (Stay.setCell (p := ⟨p, 0, none⟩) (Stay.grown (Stay.grown (Ext.stay (hx1.trans hW)) hg3 (fun k e => Or.inl (Or.inr (Or.inr e)))) hg4 (fun k e => F3 k e)) (Or.inl (Or.inl rfl)) v4) hg6 (fun k e => by cases e; exact Or.inl (Or.inr (Or.inl rfl)))
  · rcases hb with rfl | rfl | hb
    · exact Or.inl (Or.inl rfl)
    · exact Or.inl (Or.inr (Or.inl rfl))
    · rcases hl4 with e | e
      · exact F3 b (e ▸ hb)
      · rw [e] at hb; cases hb; exact Or.inr (by omega)

set_option maxHeartbeats 4000000 in
theorem arPut_c (w : World) (base p mb : Nat) (lv : Value) (K : Nat) (S : ASt) (id : Int) (A : Option Addr) (n c : Nat) (lits : List Int) (b : Bool) (h : ArMem w base p mb lv K S) (hl : IntSl w A n lits) (ho : 0 < n → Out (ArF p mb lv) A) (hK : K + 1 ≤ 1000000) :
    Calls Try.prog 57 #[.pointer (some ⟨p, 0, none⟩), .int .i64 id, .slice A n c, .bool b] w fun e w' => e = .returned (.tuple #[.int .i64 (putAt S id lits), .int .i64 (putE id lits)]) ∧ ArNext w w' base p mb lv (K + 1) (putS S id lits b) := by
  have c1 := h.blk.cell 1
  have H := Lib.hid h
  by_cases hid : id < 1 ∨ 10000000 < id
  · have HE : Hid (putE id lits = 2) := by unfold Hid putE; rw [if_pos hid]
    have HA : Hid (putAt S id lits = 0) := by unfold Hid putAt; rw [HE.out, if_neg (by decide)]
    have HS : Hid (putS S id lits b = S) := by unfold Hid putS; rw [HE.out, if_neg (by decide)]
    clear h
    rcases hid with hid | hid
    · go_enter Try.func57, Try.ntmps57
      go_wp2_with (go_at_call 66; refine (arMade_c _ _ _ c1).mono ?_; rintro e w' ⟨rfl, rfl⟩)
      go_ret2
      exact ⟨ret_ii HA.out.symm HE.out.symm, by rw [HS.out]; exact ArNext.refl H.out (Ext.refl _) hK⟩
    · have h0 : ¬ id < 1 := by omega
      go_enter Try.func57, Try.ntmps57
      go_wp2_with (go_at_call 66; refine (arMade_c _ _ _ c1).mono ?_; rintro e w' ⟨rfl, rfl⟩)
      go_ret2
      exact ⟨ret_ii HA.out.symm HE.out.symm, by rw [HS.out]; exact ArNext.refl H.out (Ext.refl _) hK⟩
  · have hpe : putE id lits = cCheckV lits 100000 := by unfold putE; rw [if_neg hid]
    have h0 : ¬ id < 1 := by omega
    have h1 : ¬ 10000000 < id := by omega
    by_cases hcz : cCheckV lits 100000 = 0
    · have HE : Hid (putE id lits = 0) := by unfold Hid; rw [hpe, hcz]
      have HA : Hid (putAt S id lits = S.size) := by unfold Hid putAt; rw [HE.out, if_pos rfl]
      have HS : Hid (putS S id lits b = ⟨S.rows ++ [ARow.mk S.size id lits b true], S.size + 3 + lits.length⟩) := by unfold Hid putS; rw [HE.out, if_pos rfl]
      have HCZ := Lib.hid hcz
      have hok := put_ok HE.out
      obtain ⟨_, hl1, _⟩ := hok
      have hln := h.len
      have hsz := h.inv.size
      have hnl := hl.1
      obtain ⟨Ar, cr, rfl, _⟩ := h.row.form
      have HSZ := Lib.hid hsz
      have HNL := Lib.hid hnl
      have hn1 : n ≤ 1000 := by omega
      clear h hid hpe hcz hsz hnl
      cases b
      all_goals
        go_enter Try.func57, Try.ntmps57
        go_wp2_with (go_at_call 66; refine (arMade_c _ _ _ c1).mono ?_; rintro e w' ⟨rfl, rfl⟩)
        refine (clauseCheck_c _ _ _ lits 100000 _ hl).mono ?_
        rintro e w1 ⟨rfl, hx1⟩
        rw [HCZ.out]
        have hm1 := H.out.ext hx1
        have k0 := hm1.blk.cell 0
        have k1 := hm1.blk.cell 1
        have HM1 := Lib.hid hm1
        have HX1 := Lib.hid hx1
        clear hm1 hx1 c1
        go_wp2_with (first
          | (at_builtin; refine appendRow _ rfl (.tmp 38) (.tmp 43) rfl base _ (flatA S.rows) rfl (HM1.out.row.ext ((Ext.refl _).alloc _)) _ _ _ _ rfl (intSl_newg #[.int .i64 id, .int .i64 n, .int .i64 _] 3 [id, (n : Int), _] 3 rfl rfl (by decide) (by intro x hx; simp at hx; omega) w1 _ rfl) (by decide) (by omega) (by have := HM1.out.blk.lt; have := HM1.out.bp; simp; omega) ?_; intro v3 w3 ho3 hg3 hloc; obtain ⟨A3, n3, c3, rfl⟩ := ho3.form; have hl3 := IntSl.stay0 (hl.ext (HX1.out.trans ((Ext.refl w1).alloc _))) ((Stay.refl (fun b => (Value.slice Ar (flatA S.rows).length cr).ownBlock = some b) _).grown hg3 (fun k e => Or.inl e)) (fun h0 ad e hf => ho h0 ad e (Or.inr (Or.inr hf))); have hb3 := (HM1.out.blk.alloc _).grown hg3 (Ne.symm (HM1.out.row.ne_blk HM1.out.blk (by decide))); have hs3 : base ≤ w3.heap.size := (by have := hb3.lt; have := HM1.out.bp; omega); have HO3 := Lib.hid ho3; have HG3 := Lib.hid hg3; have HLO3 := Lib.hid hloc; have HL3 := Lib.hid hl3; have HB3 := Lib.hid hb3; clear ho3 hg3 hloc hl3 hb3)
          | (at_builtin; refine appendS _ rfl (.tmp 44) (.tmp 45) rfl base _ _ rfl HO3.out _ _ _ lits rfl HL3.out (by simp; omega) hs3 ?_; intro v4 w4 ho4 hg4 hloc; obtain ⟨A4, n4, c4, rfl⟩ := ho4.form; have hb4 := HB3.out.grown hg4 (Ne.symm (HO3.out.ne_blk HB3.out (by decide))); have q0 := hb4.cell 0; have q1 := hb4.cell 1; have f0 := hb4.frozen 0; have hm3 : Cnt w3 mb K (headA S.rows) := (HM1.out.heads.ext ((Ext.refl w1).alloc _)).grown HG3.out (Ne.symm (HM1.out.heads.ne_row HM1.out.row)); have hm4 := hm3.grown hg4 (Ne.symm (hm3.ne_row (RowI.of_own HO3.out))); have HM4 := Lib.hid hm4; have HO4 := Lib.hid ho4; have HG4 := Lib.hid hg4; have HLO4 := Lib.hid hloc; clear ho4 hg4 hloc hb4 hm3 hm4 k0 k1)
          | (at_mapUpdate; refine wpList_setm _ rfl (.tmp 52) (.tmp 53) (.tmp 54) rfl mb K (headA S.rows) rfl (HM4.out.keep (Below.heap_setCell w4 ⟨p, 0, none⟩ _ mb (HM1.out.heads.ne_blk2 HM1.out.blk))) (by omega) _ _ rfl rfl (by omega) (by omega) ?_; intro w6 hc6 hg6; have HC6 := Lib.hid hc6; have HG6 := Lib.hid hg6; clear hc6 hg6))
        go_ret2
        refine ⟨ret_ii (by rw [HA.out, HSZ.out]) HE.out.symm, ?_⟩
        rw [HS.out]
        have hinv := put_inv H.out.inv HE.out
        refine put_end HM1.out HX1.out ((Ext.refl w1).alloc _) HO3.out HG3.out HLO3.out (S' := ⟨_, _⟩) ?_ HG4.out HLO4.out HC6.out (fun z => ?_) HG6.out (hinv _) ?_ hK
        · have := HO4.out
          rw [flatA_snoc]
          simpa [encR, sideA, HNL.out] using this
        · show (if z = (((flatA S.rows).length : Nat) : Int) then id else headA S.rows z) = _
          rw [head_put H.out.inv HE.out, HSZ.out]
        · have := H.out.sm
          simp; omega
    · have HE : Hid (putE id lits = cCheckV lits 100000) := hpe
      have hne : (cCheckV lits 100000 != 0) = true := by simpa using hcz
      have HA : Hid (putAt S id lits = 0) := by unfold Hid putAt; rw [HE.out, if_neg hcz]
      have HS : Hid (putS S id lits b = S) := by unfold Hid putS; rw [HE.out, if_neg hcz]
      clear h hid hpe hcz
      go_enter Try.func57, Try.ntmps57
      go_wp2_with (go_at_call 66; refine (arMade_c _ _ _ c1).mono ?_; rintro e w' ⟨rfl, rfl⟩)
      refine (clauseCheck_c _ _ _ lits 100000 _ hl).mono ?_
      rintro e w1 ⟨rfl, hx1⟩
      have HX1 := Lib.hid hx1
      clear hx1
      go_wp2_with fail
      go_ret2
      exact ⟨ret_ii HA.out.symm HE.out.symm, by rw [HS.out]; exact ArNext.refl H.out HX1.out hK⟩
end Go.Proofs.Ytbkimfefbdfkbaa
