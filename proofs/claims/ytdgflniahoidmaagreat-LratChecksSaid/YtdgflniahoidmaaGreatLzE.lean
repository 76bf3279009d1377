/- The reference of layer 11: show, walked. -/
import Derived.Test.YtdgflniahoidmaaGreatLzD
import Derived.Deep.DeepCutAuto
set_option maxRecDepth 100000
namespace Go.Proofs.YtdgflniahoidmaaGreat
open Go.RowKit

theorem OwnR.formZ {w0 w : World} {base : Nat} {v : Value} {L : List (List Int)} (h : OwnR w0 w base v L) : ∃ A m c, v = .slice A m c := by
  obtain ⟨vs, a, _, _⟩ := h
  exact OwnV.form a

set_option maxRecDepth 100000 in
set_option maxHeartbeats 8000000 in
theorem r11Show_c (A : Option Addr) (n c : Nat) (R : List (Int × List Int)) (last : Int) (done : Bool) (A1 : Option Addr) (n1 c1 : Nat) (lits : List Int) (A2 : Option Addr) (n2 c2 : Nat) (hints : List Int) (kind id : Int) (w : World) (h : RowsN w A n R) (hi : Inv11 ⟨R, last, done⟩) (hrl : n ≤ 100000) (h1 : IntSl w A1 n1 lits) (hc1 : n1 ≤ c1) (h2 : IntSl w A2 n2 hints) (hc2 : n2 ≤ c2) (hsm1 : n1 ≤ 1000) (hsm2 : n2 ≤ 1000) (hh : HintsIn hints) :
    Calls Tryz.prog 32 #[.agg #[.slice A n c, .int .i64 last, .bool done], .agg #[.int .i64 kind, .int .i64 id, .slice A1 n1 c1, .slice A2 n2 c2]] w fun e w' => e = .returned (.int .i64 (showR R lits hints)) ∧ Ext w w' := by
  have HSH : Hid (showR R lits hints = if showE lits (rowsR R (splitV hints).1) ≠ 23 ∨ lits.length = 0 then showE lits (rowsR R (splitV hints).1) else if (ratShow (rowsR R (idsR R)) lits (rowsR R (splitV hints).1) (eachF R (splitV hints).2)).2 ≠ 0 then 24 else 0) := rfl
  have HLN := Lib.hid h.1
  have HL1 := Lib.hid h1.1
  have HI := Lib.hid hi
  have HS := Lib.hid h
  have HS1 := Lib.hid h1
  have HS2 := Lib.hid h2
  obtain ⟨l1, l2, l3⟩ := split_len hints
  rw [h2.1] at l1 l2 l3
  obtain ⟨p1, p2⟩ := split_parts hints
  have HL3 := Lib.hid l3
  have HP2 := Lib.hid p2
  have HHH := Lib.hid hh
  have hbS := Blk.new (w.alloc (Obj.cells #[.slice A n c, .int .i64 last, .bool done] 38)) 44 #[.int .i64 kind, .int .i64 id, .slice A1 n1 c1, .slice A2 n2 c2]
  simp only [World.size_alloc] at hbS
  have HB0 := Lib.hid ((Blk.new w 38 #[.slice A n c, .int .i64 last, .bool done]).alloc (Obj.cells #[.int .i64 kind, .int .i64 id, .slice A1 n1 c1, .slice A2 n2 c2] 44))
  have HB1 := Lib.hid hbS
  have HXA : Hid (Ext w ((w.alloc (Obj.cells #[.slice A n c, .int .i64 last, .bool done] 38)).alloc (Obj.cells #[.int .i64 kind, .int .i64 id, .slice A1 n1 c1, .slice A2 n2 c2] 44))) := ((Ext.refl _).alloc _).alloc _
  have a3 := HB1.out.cell 3
  clear h hi h1 h2 l3 p1 p2 hh hbS
  obtain ⟨E, hE⟩ : ∃ E, showE lits (rowsR R (splitV hints).1) = E := ⟨_, rfl⟩
  have HE := Lib.hid hE
  rw [hE] at HSH
  clear hE
  go_enter Tryz.func32, Tryz.ntmps32
  go_wp2_with fail
  refine (r10Split_c _ _ _ hints _ (HS2.out.ext HXA.out) hc2 (by omega)).mono ?_
  rintro e w1 ⟨Aa, na, ca, vg, rfl, hsa, hrw, hx1⟩
  obtain ⟨Ag, ng, cg, rfl, hgw, hcg⟩ := hrw.slW hx1 (by omega)
  have hna : na ≤ 1000 := by have := hsa.1; omega
  have hng : ng ≤ 1000 := by have := hgw.1; omega
  have HSA := Lib.hid (hsa.ext hx1)
  have HGW := Lib.hid hgw
  have HX1 := Lib.hid (HXA.out.trans hx1)
  have HC0 := Lib.hid (HB0.out.ext hx1)
  have HC1 := Lib.hid (HB1.out.ext hx1)
  clear hsa hrw hgw hx1 a3 HB0 HB1 HXA
  have b0 := HC0.out.cell 0
  have b1 := HC0.out.cell 1
  have b2 := HC0.out.cell 2
  have s2 := HC1.out.cell 2
  go_wp2_with fail
  go_cut [7, 8] (fun s7 s8 wx => ∃ y : Int, s7 = .int .i64 y ∧ s8 = .int .i64 E ∧ Ext w1 wx)
  case first =>
   go_region_law
    ((first
      | (go_simp; (with_reducible refine (r11RowsO_c _ _ _ R last done _ _ _ (splitV hints).1 w _ HS.out (HX1.out.trans (Ext.drew (Ext.refl w1))) (HSA.out.ext (Ext.drew (Ext.refl w1))) (by omega)).mono ?_); rintro e w3 ⟨v3, rfl, ho3, hx3⟩; obtain ⟨Af, nf, cf, rfl, hsf, hcf⟩ := ho3.sl ((HX1.out.trans (Ext.drew (Ext.refl w1))).trans hx3) (by rw [rowsR_len]; omega); have hnf : nf ≤ 1000 := (by have := hsf.1; rw [rowsR_len] at this; omega); have HSF := Lib.hid hsf; have HX3 : Hid (Ext w1 w3) := (Ext.drew (Ext.refl w1)).trans hx3; have t0 := (HC0.out.ext HX3.out).cell 0; have t1 := (HC0.out.ext HX3.out).cell 1; have t2 := (HC0.out.ext HX3.out).cell 2; have t3 := (HC1.out.ext HX3.out).cell 2; clear ho3 hx3 hsf)
      | (go_simp; (with_reducible refine (rRupShow_c _ _ _ lits _ _ _ _ _ (HS1.out.ext (HX1.out.trans HX3.out)) hc1 HSF.out (by omega) (by omega)).mono ?_); rintro e w4 ⟨rfl, hx4⟩; rw [HE.out]; have HX4 := Lib.hid (HX3.out.trans hx4); clear hx4 t0 t1 t2 t3)))
   all_goals
    go_wp2_with fail
    go_meet
    exact ⟨_, rfl, rfl, HX4.out⟩
  case rest =>
    obtain ⟨yc, rfl, rfl, hx4⟩ := hcut
    generalize wc = w4 at hx4 ⊢
    have HX4 := Lib.hid hx4
    clear hx4 b0 b1 b2 s2
    have HD0 := Lib.hid (HC0.out.ext HX4.out)
    have HD1 := Lib.hid (HC1.out.ext HX4.out)
    have b0 := HD0.out.cell 0
    have b1 := HD0.out.cell 1
    have b2 := HD0.out.cell 2
    have s2 := HD1.out.cell 2
    by_cases h23 : E = 23
    · subst h23
      by_cases hn0 : n1 = 0
      · subst hn0
        have HR : Hid (showR R lits hints = 23) := by unfold Hid; rw [HSH.out, if_pos (.inr HL1.out)]
        clear HSH
        go_wp2_with fail
        go_ret
        exact ⟨ret_int HR.out.symm, HX1.out.trans HX4.out⟩
      · have hn1i : ((n1 : Int) == 0) = false := by rw [beq_eq_false_iff_ne]; omega
        have HR : Hid (showR R lits hints = if (ratShow (rowsR R (idsR R)) lits (rowsR R (splitV hints).1) (eachF R (splitV hints).2)).2 ≠ 0 then 24 else 0) := by unfold Hid; rw [HSH.out, if_neg (by have := HL1.out; rintro (e | e); exact e rfl; omega)]
        have HIB : Hid (∀ p ∈ R, 1 ≤ p.1 ∧ p.1 ≤ 10000000) := fun p hp => by have e1 := HI.out.ids p hp; have e2 := HI.out.low; dsimp only at e1 e2; omega
        clear HSH hn0
        go_wp2_with fail
        refine (r11Ids_c _ _ _ R last done _ (HS.out.ext (HX1.out.trans HX4.out)) HIB.out (by omega)).mono ?_
        rintro e w5 ⟨v5, rfl, hv5, hx5⟩
        obtain ⟨A5, n5, c5, rfl, hs5⟩ := hv5.sl (by rw [idsR_len]; have := HLN.out; omega) (fun x hx => by
          obtain ⟨p, hp, rfl⟩ := List.mem_map.1 hx
          have := HIB.out p hp
          omega)
        have hn5 : n5 ≤ 100000 := by have e1 := hs5.1; rw [idsR_len] at e1; have := HLN.out; omega
        have HL5 := Lib.hid hs5.1
        have HS5 := Lib.hid hs5
        have HX5 := Lib.hid (HX4.out.trans hx5)
        have HE0 := Lib.hid (HD0.out.ext hx5)
        have HE1 := Lib.hid (HD1.out.ext hx5)
        clear hv5 hx5 hs5 b0 b1 b2 s2 HD0 HD1
        go_wp2_with fail
        go_loopw [10, 11, 12] (fun v i _ wr => ∃ q : Nat, q ≤ ng ∧ i = .int .i64 q ∧ OwnE w wr w5.heap.size v (eachL R ((splitV hints).2.take q)) ∧ Ext w5 wr) (fun _ i _ _ => ng - (intOf i).toNat)
        case atStart => exact ⟨0, Nat.zero_le _, rfl, OwnE.nil _ _ _, Ext.refl _⟩
        case round =>
          obtain ⟨q, hq, rfl, ho, hx⟩ := hrel
          obtain ⟨wo, rfl⟩ : ∃ x, x = wr := ⟨_, rfl⟩
          have HO := Lib.hid ho
          have HXR := Lib.hid hx
          clear ho hx
          by_cases hqn : q < ng
          · obtain ⟨adg, g, A8, n8, c8, rfl, hg, hcg8, hs8, hc8⟩ := (HGW.out.ext HX5.out).at_ hqn
            obtain ⟨y, t, hgy, hy1, hy2, hy3⟩ := HP2.out g (List.mem_of_getElem? hg.out)
            have hgl := HL3.out g (List.mem_of_getElem? hg.out)
            have HT : Hid (eachL R ((splitV hints).2.take (q + 1)) = eachL R ((splitV hints).2.take q) ++ groupE R g (idsR R).length) := by unfold Hid; rw [take_succ_of hg.out, eachL_snoc]
            have HEL : Hid ((eachL R ((splitV hints).2.take q)).length ≤ 100000000) := by
              have e1 := eachL_len R ((splitV hints).2.take q)
              have e2 : ((splitV hints).2.take q).length ≤ 1000 := by rw [List.length_take]; omega
              have e3 : R.length ≤ 100000 := by have := HLN.out; omega
              have e4 := Nat.mul_le_mul e2 e3
              unfold Hid; omega
            subst hgy
            have hn8 : 0 < n8 := by have := hs8.1; simp at this; omega
            have hn8b : n8 ≤ 1000 := by have := hs8.1; omega
            obtain ⟨ad8, y', rfl, hy', hcy, _, _⟩ := hs8.at_ hn8
            have hyy : y' = y := by have := hy'.out; simpa using this.symm
            subst hyy
            have hyb := HHH.out y' hy2
            have HCY : Hid (w5.cell? ad8 = some (.int .i64 y')) := by
              have e0 : ad8.add 0 = ad8 := by unfold Addr.add; split <;> simp_all
              rw [e0] at hcy; exact hcy
            have hwrap : IntKind.i64.wrap (-y') = -y' := by rw [IntKind.wrap_i64]; omega
            have hn81 : (1 : Int) ≤ (n8 : Int) := by omega
            have hn80 : (0 : Int) < (n8 : Int) := by omega
            have hc8n : n8 ≤ c8 := hc8.out
            have HRT := Lib.hid (hs8.rest hc8n)
            have HC8 := Lib.hid hcg8
            clear hg hcg8 hs8 hc8 hy2 hy3 hgl hcy hy'
            go_wp2_with fail
            go_loopw [10, 12] (fun v i wj => ∃ s : Nat, s ≤ n5 ∧ i = .int .i64 s ∧ OwnE w wj w5.heap.size v (eachL R ((splitV hints).2.take q) ++ groupE R (y' :: t) s) ∧ Ext w5 wj) (fun _ i _ => n5 - (intOf i).toNat)
            case atStart => exact ⟨0, Nat.zero_le _, rfl, by have e := HO.out; have e2 : groupE R (y' :: t) 0 = [] := rfl; rw [e2, List.append_nil]; exact e, HXR.out⟩
            case round =>
              obtain ⟨s, hs, rfl, ho, hxj⟩ := hrel
              have HOJ := Lib.hid ho
              have HXJ := Lib.hid hxj
              clear ho hxj
              by_cases hsn : s < n5
              · obtain ⟨ad5, z, rfl, hz, hcz, hz1, hz2⟩ := (HS5.out.ext HXJ.out).at_ hsn
                have HGS := Lib.hid (groupE_succ R (y' :: t) s)
                have HGD : Hid ((idsR R).getD s 0 = z) := by unfold Hid; rw [List.getD_eq_getElem?_getD, hz.out]; rfl
                have hc8j := HXJ.out.cell HC8.out
                have hcyj := HXJ.out.cell HCY.out
                clear hz
                by_cases hez : z = -y'
                · have heb : (z == -y') = true := by simpa using hez
                  have HF : Hid (groupE R (y' :: t) (s + 1) = groupE R (y' :: t) s ++ [((s : Int), rowsR R t)]) := by unfold Hid; rw [HGS.out, HGD.out, if_pos (by simpa using hez)]; rfl
                  have HFL : Hid ((eachL R ((splitV hints).2.take q) ++ groupE R (y' :: t) s).length + 1 ≤ 1000000000000) := by
                    have e1 := HEL.out
                    have e2 := groupE_len R (y' :: t) s
                    unfold Hid; rw [List.length_append]; omega
                  have HZ : Hid (w5.heap.size ≤ wr.heap.size) := HXJ.out.size_le
                  have HF0 := Lib.hid (HE0.out.ext HXJ.out)
                  have b0 := HF0.out.cell 0
                  have b1 := HF0.out.cell 1
                  have b2 := HF0.out.cell 2
                  clear hez
                  obtain ⟨Av, nv, cv, rfl⟩ := HOJ.out.form
                  go_wp2
                  go_quiet (fail)
                  go_wp2_with fail
                  go_region_law
                    ((first
                      | (go_simp; (with_reducible refine (r11RowsO_c _ _ _ R last done _ _ _ t w _ HS.out (HX1.out.trans ((HX5.out.trans HXJ.out).trans ((Ext.refl wr).drewN _))) (HRT.out.ext (HXJ.out.trans ((Ext.refl wr).drewN _))) (by omega)).mono ?_); rintro _ w6 ⟨v6, rfl, ho6, hx6⟩; obtain ⟨A6, n6, c6, rfl⟩ := OwnR.formZ ho6; have HO6 := Lib.hid ho6; have HX6 : Hid (Ext wr w6) := ((Ext.refl wr).drewN _).trans hx6; clear ho6 hx6)
                      | (refine step_appendE w _ (by rfl) (.tmp 63) (.tmp 73) (by rfl) w5.heap.size _ _ (by rfl) (HOJ.out.ext (HX6.out.trans (show Ext w6 _ by (repeat (first | with_reducible exact Ext.refl _ | with_reducible apply Ext.alloc | with_reducible apply Ext.drew | with_reducible apply Ext.drewN | (apply Ext.trans'; assumption)))))) _ _ ((s : Int), rowsR R t) (.slice A6 n6 c6) _ rfl (by rfl) (by exact SlV.new1N _ _ _) (HO6.out.ext (by (repeat (first | with_reducible exact Ext.refl _ | with_reducible apply Ext.alloc | with_reducible apply Ext.drew | with_reducible apply Ext.drewN | (apply Ext.trans'; assumption))))) HFL.out (by have e1 := HX6.out.size_le; have e2 := HZ.out; simp; omega) ?_; intro A9 n9 c9 w9 ho9 hg9 hloc; have HX9 : Hid (Ext w5 w9) := Ext.grown ((HXJ.out.trans HX6.out).trans (show Ext w6 _ by (repeat (first | with_reducible exact Ext.refl _ | with_reducible apply Ext.alloc | with_reducible apply Ext.drew | with_reducible apply Ext.drewN | (apply Ext.trans'; assumption))))) hg9 (fun k e => (HOJ.out.blk k e).1); have HO9 := Lib.hid ho9; clear ho9 hg9 hloc)))
                  all_goals
                    go_wp2_with fail
                    go_roundw
                    case rel => exact ⟨s + 1, by omega, by go_num, by rw [HF.out, ← List.append_assoc]; exact HO9.out, HX9.out⟩
                    case measure => simp [intOf]; omega
                · have heb : (z == -y') = false := by simpa using hez
                  have HF : Hid (groupE R (y' :: t) (s + 1) = groupE R (y' :: t) s) := by unfold Hid; rw [HGS.out, HGD.out, if_neg (by simpa using hez), List.append_nil]
                  clear hez
                  go_wp2
                  go_quiet (fail)
                  go_wp2_with fail
                  go_roundw
                  case rel => exact ⟨s + 1, by omega, by go_num, by rw [HF.out]; exact HOJ.out.ext ((Ext.refl wr).drewN _), HXJ.out.drewN _⟩
                  case measure => simp [intOf]; omega
              · have HOE : Hid (OwnE w wr w5.heap.size u10 (eachL R ((splitV hints).2.take (q + 1)))) := by
                  have e := HOJ.out
                  have e5 : s = (idsR R).length := by have := HL5.out; omega
                  unfold Hid
                  rw [HT.out, ← e5]
                  exact e
                go_wp2_with fail
                go_roundw
                case rel => exact ⟨q + 1, by omega, by go_num, HOE.out, HXJ.out⟩
                case measure => simp [intOf]; omega
          · have HOF : Hid (OwnE w wo w5.heap.size u10 (eachL R (splitV hints).2)) := by
              have e := HO.out
              rw [List.take_of_length_le (by have := HGW.out.1; omega)] at e
              exact e
            have HEL : Hid ((eachL R (splitV hints).2).length ≤ 100000000) := by
              have e1 := eachL_len R (splitV hints).2
              have e2 : (splitV hints).2.length ≤ 1000 := by omega
              have e3 : R.length ≤ 100000 := by have := HLN.out; omega
              have e4 := Nat.mul_le_mul e2 e3
              unfold Hid; omega
            have HEW : Hid (∀ e ∈ eachL R (splitV hints).2, e.2.length ≤ 1000) := fun e he => by
              obtain ⟨g, hg, e2⟩ := eachL_rows e he
              rw [e2, rowsR_len, List.length_tail]
              have := HL3.out g hg
              omega
            have HXW : Hid (Ext w wo) := HX1.out.trans (HX5.out.trans HXR.out)
            obtain ⟨A10, n10, c10, rfl, hre, _⟩ := HOF.out.rows HXW.out (by have := HEL.out; omega) (fun e he => by have := HEW.out e he; omega)
            have hn10 : n10 ≤ 100000000 := by have e1 := hre.1; have e2 := HEL.out; omega
            have HRE := Lib.hid hre
            have HF0 := Lib.hid (HE0.out.ext HXR.out)
            have HF1 := Lib.hid (HE1.out.ext HXR.out)
            have b0 := HF0.out.cell 0
            have b1 := HF0.out.cell 1
            have b2 := HF0.out.cell 2
            have s2 := HF1.out.cell 2
            obtain ⟨⟨r1, r2⟩, hRS⟩ : ∃ RS, ratShow (rowsR R (idsR R)) lits (rowsR R (splitV hints).1) (eachF R (splitV hints).2) = RS := ⟨_, rfl⟩
            have HRS := Lib.hid hRS
            rw [hRS] at HR
            clear hRS hre
            go_wp2_with fail
            go_region_law
              ((first
                | (go_simp; (with_reducible refine (r11RowsO_c _ _ _ R last done _ _ _ (idsR R) w _ HS.out (HXW.out.trans (Ext.drew (Ext.refl wo))) (HS5.out.ext (HXR.out.trans (Ext.drew (Ext.refl wo)))) (by omega)).mono ?_); rintro _ w6 ⟨v6, rfl, ho6, hx6⟩; have HX6 : Hid (Ext wo w6) := (Ext.drew (Ext.refl wo)).trans hx6; obtain ⟨A6, n6, c6, rfl, hs6, _⟩ := ho6.sl (HXW.out.trans HX6.out) (by rw [rowsR_len, idsR_len]; have := HLN.out; omega); have hn6 : n6 ≤ 100000 := (by have e1 := hs6.1; rw [rowsR_len, idsR_len] at e1; have := HLN.out; omega); have HS6 := Lib.hid hs6; have t0 := (HF0.out.ext HX6.out).cell 0; have t1 := (HF0.out.ext HX6.out).cell 1; have t2 := (HF0.out.ext HX6.out).cell 2; have t3 := (HF1.out.ext HX6.out).cell 2; clear hx6 ho6 hs6)
                | (go_simp; (with_reducible refine (r11RowsO_c _ _ _ R last done _ _ _ (splitV hints).1 w _ HS.out (HXW.out.trans HX6.out) (HSA.out.ext (HX5.out.trans (HXR.out.trans HX6.out))) (by omega)).mono ?_); rintro _ w7 ⟨v7, rfl, ho7, hx7⟩; have HX7 := Lib.hid (HX6.out.trans hx7); obtain ⟨A7, n7, c7, rfl, hs7, _⟩ := ho7.sl (HXW.out.trans HX7.out) (by rw [rowsR_len]; omega); have hn7 : n7 ≤ 1000 := (by have e1 := hs7.1; rw [rowsR_len] at e1; omega); have HS7 := Lib.hid hs7; have HS67 := Lib.hid (HS6.out.ext hx7); have y3 := (HF1.out.ext HX7.out).cell 2; clear hx7 ho7 hs7)
                | (go_simp; (with_reducible refine (r9Show_c _ _ _ (rowsR R (idsR R)) _ _ _ lits _ _ _ (rowsR R (splitV hints).1) _ _ _ (eachL R (splitV hints).2) _ HS67.out (HS1.out.ext (HXW.out.trans HX7.out)) hc1 HS7.out (HRE.out.ext HX7.out) (by omega) (by omega) (by omega) hn10 (fun d hd => by have := (rowsR_wide HI.out _ d hd).1; omega) (fun e he => by have := HEW.out e he; omega)).mono ?_); rintro _ w8 ⟨rfl, hx8⟩; rw [eachL_fun (R := R) HI.out.rise, HRS.out]; have HX8 := Lib.hid ((HXW.out.trans HX7.out).trans hx8); clear hx8)))
            all_goals
              by_cases hr2 : r2 = 0
              · subst hr2
                go_wp2_with fail
                go_ret
                exact ⟨ret_int (by rw [HR.out, if_neg (by simp)]), HX8.out⟩
              · have hb : (r2 != 0) = true := by simpa using hr2
                go_wp2_with fail
                go_ret
                exact ⟨ret_int (by rw [HR.out, if_pos hr2]), HX8.out⟩
    · have hb : (E == 23) = false := by simpa using h23
      have hb2 : (E != 23) = true := by simpa using h23
      have HR : Hid (showR R lits hints = E) := by unfold Hid; rw [HSH.out, if_pos (.inl h23)]
      clear HSH h23
      go_wp2_with fail
      go_ret
      exact ⟨ret_int HR.out.symm, HX1.out.trans HX4.out⟩
end Go.Proofs.YtdgflniahoidmaaGreat
