/- Layer 11 (lrat): show. -/
import Derived.Test.YtdgflniahoidmaaLr14
import Derived.Test.YtdgflniahoidmaaRat3
set_option maxRecDepth 100000
namespace Go.Proofs.Ytdgflniahoidmaa
open Go.RowKit Go.Shelf Go.Sort Go.Maps

theorem run_makeMap_no {P : Program} (t : TypeId) (w : World) : (Instr.makeMap t none).run P w = .ok (.map (some w.heap.size)) (w.alloc (.map #[] 0)) := by
  simp [Instr.makeMap]
theorem Ext.then_stay {a w w' : World} {F : Nat → Prop} (h : Ext a w) (k : Stay F w w') (hF : ∀ b, F b → a.heap.size ≤ b) : Ext a w' := (Stay.ext_trans h k).ext hF
theorem eachF_snoc (R : List (Int × List Int)) (gs : List (List Int)) (g : List Int) : eachF R (gs ++ [g]) = each1 R (eachF R gs) g := by unfold eachF; rw [List.foldl_append]; rfl
theorem EachM.made (w0 w : World) : EachM w0 (w.alloc (.map #[] 0)) w.heap.size 0 fun _ => none := ⟨fun _ => none, MapV.made w, fun _ => trivial⟩
theorem ids_bd {S : CSt} (hi : Inv11 S) : ∀ x ∈ idsR S.rows, 1 ≤ x ∧ x ≤ 10000000 := by
  intro x hx
  obtain ⟨p, hp, rfl⟩ := List.mem_map.1 hx
  have := hi.ids p hp
  have := hi.low
  omega
theorem idsR_len (R : List (Int × List Int)) : (idsR R).length = R.length := by unfold idsR; rw [List.length_map]

set_option maxHeartbeats 8000000 in
theorem show_c (p b : Nat) (S : CSt) (A : Option Addr) (n c : Nat) (lits : List Int) (A' : Option Addr) (n' c' : Nat) (hints : List Int) (w : World) (hm : CMem w p b S) (hi : Inv11 S) (hrl : S.rows.length ≤ 100000) (h : IntSl w A n lits) (h' : IntSl w A' n' hints) (hsm : n ≤ 1000) (hsm' : n' ≤ 1000) (hh : HintsIn hints) :
    Calls Try.prog 40 #[.pointer (some ⟨p, 0, none⟩), .slice A n c, .slice A' n' c'] w fun e w' => e = .returned (.int .i64 (showR S.rows lits hints)) ∧ Ext w w' := by
  have HSH : Hid (showR S.rows lits hints = if showE lits (rowsR S.rows (splitV hints).1) ≠ 23 ∨ lits.length = 0 then showE lits (rowsR S.rows (splitV hints).1) else if (ratShow (rowsR S.rows (idsR S.rows)) lits (rowsR S.rows (splitV hints).1) (eachF S.rows (splitV hints).2)).2 ≠ 0 then 24 else 0) := rfl
  have HLN := Lib.hid h.1
  have HLN' := Lib.hid h'.1
  have HM := Lib.hid hm
  have HI := Lib.hid hi
  have HS := Lib.hid h
  have HS' := Lib.hid h'
  obtain ⟨l1, l2, l3⟩ := split_len hints
  rw [h'.1] at l1 l2 l3
  obtain ⟨p1, p2⟩ := split_parts hints
  have HL3 := Lib.hid l3
  have HP1 := Lib.hid p1
  have HP2 := Lib.hid p2
  have HHH := Lib.hid hh
  have HRL := Lib.hid hrl
  clear hm hi h h' l3 p1 p2 hh hrl
  obtain ⟨E, hE⟩ : ∃ E, showE lits (rowsR S.rows (splitV hints).1) = E := ⟨_, rfl⟩
  have HE := Lib.hid hE
  rw [hE] at HSH
  clear hE
  go_enter Try.func40, Try.ntmps40
  go_wp2_with fail
  refine (split_c _ _ _ hints _ HS'.out (by omega)).mono ?_
  rintro e w1 ⟨va, vg, us, rfl, hsp, hx1⟩
  obtain ⟨Aa, na, ca, rfl, hsa, hca⟩ := hsp.ahead.slc (by omega) (fun x hx => by have h1 := (HP1.out x hx).1; have := HHH.out x h1; omega)
  have hna : na ≤ 1000 := by have := hsa.1; omega
  have hul : us.length ≤ 1000 := by have := hsp.len; omega
  obtain ⟨Ag, cg, rfl, _, hcg⟩ := hsp.rows.sl (by omega)
  have HSP := Lib.hid hsp
  have HX1 := Lib.hid hx1
  have HSA := Lib.hid hsa
  have HAL := Lib.hid hsa.1
  clear hsp hx1 hsa
  go_wp2_with fail
  have HX2 : Hid (Ext w1 (w1.alloc (Obj.cells #[.func (.func 53) #[.pointer (some ⟨p, 0, none⟩)] #[]] 84))) := (Ext.refl w1).alloc _
  have HQ9 : Hid ((w1.alloc (Obj.cells #[.func (.func 53) #[.pointer (some ⟨p, 0, none⟩)] #[]] 84)).cell? ⟨w1.heap.size, 0, none⟩ = _) := cell_one w1 _ _
  refine (rows11_c _ _ _ _ p b S w _ (HSA.out.ext HX2.out) HM.out (HX1.out.trans HX2.out) HI.out (by omega)).mono ?_
  rintro e w3 ⟨v3, rfl, ho3, hx3⟩
  obtain ⟨Af, nf, cf, rfl, hsf, hcf⟩ := ho3.sl (HX1.out.trans (HX2.out.trans hx3)) (by rw [rowsR_len]; omega)
  have hnf : nf ≤ 1000 := by have := hsf.1; rw [rowsR_len] at this; omega
  have HSF := Lib.hid hsf
  have HX3 := Lib.hid (HX2.out.trans hx3)
  have HQ93 := Lib.hid (hx3.cell HQ9.out)
  clear ho3 hx3 hsf
  go_wp2_with fail
  refine (rupShow_c _ _ _ lits _ _ _ _ _ (HS.out.ext (HX1.out.trans HX3.out)) HSF.out (by omega) (by omega)).mono ?_
  rintro e w4 ⟨rfl, hx4⟩
  rw [HE.out]
  have HX4 := Lib.hid (HX3.out.trans hx4)
  have HQ94 := Lib.hid (hx4.cell HQ93.out)
  have HSF4 := Lib.hid (HSF.out.ext hx4)
  clear hx4 HSF HQ9 HQ93 HX2 HE
  by_cases h23 : E = 23
  · subst h23
    by_cases hn0 : n = 0
    · subst hn0
      have HR : Hid (showR S.rows lits hints = 23) := by unfold Hid; rw [HSH.out, if_pos (.inr HLN.out)]
      clear HSH
      go_wp2_with fail
      go_ret
      exact ⟨ret_int HR.out.symm, HX1.out.trans HX4.out⟩
    · have hn1 : 0 < n := by omega
      have HR : Hid (showR S.rows lits hints = if (ratShow (rowsR S.rows (idsR S.rows)) lits (rowsR S.rows (splitV hints).1) (eachF S.rows (splitV hints).2)).2 ≠ 0 then 24 else 0) := by unfold Hid; rw [HSH.out, if_neg (by have := HLN.out; rintro (e | e); exact e rfl; omega)]
      clear HSH
      have hmk := fun (W : World) => run_makeMap_no (P := Try.prog) 87 W
      go_wp2_with fail
      refine (ids_c _ p b S (HM.out.ext (HX1.out.trans HX4.out)) HI.out).mono ?_
      rintro e w5 ⟨v5, rfl, hv5, hx5⟩
      obtain ⟨A5, n5, c5, rfl⟩ := hv5.form
      have HV5 := Lib.hid hv5
      have HX5 := Lib.hid (HX4.out.trans hx5)
      have HQ95 := Lib.hid (hx5.cell HQ94.out)
      have HSF5 := Lib.hid (HSF4.out.ext hx5)
      clear hv5 hx5
      go_wp2_with fail
      have HX6 : Hid (Ext w5 (w5.alloc (Obj.cells #[.slice A5 n5 c5] 40))) := (Ext.refl w5).alloc _
      have HQ13 : Hid ((w5.alloc (Obj.cells #[.slice A5 n5 c5] 40)).cell? ⟨w5.heap.size, 0, none⟩ = some (.slice A5 n5 c5)) := cell_one w5 _ _
      have HSZ6 : Hid ((w5.alloc (Obj.cells #[.slice A5 n5 c5] 40)).heap.size = w5.heap.size + 1) := World.size_alloc _ _
      generalize hw6 : w5.alloc (Obj.cells #[.slice A5 n5 c5] 40) = w6 at HX6 HQ13 HSZ6 ⊢
      have HX65 := Lib.hid (HX5.out.trans HX6.out)
      have HE0 : Hid (EachM w ((w6.alloc (.map #[] 0)).alloc (Obj.cells #[.map (some (w5.heap.size + 1))] 87)) (w5.heap.size + 1) 0 (eachF S.rows ((splitV hints).2.take 0))) := by
        have := (EachM.made w w6).ext ((Ext.refl _).alloc (Obj.cells #[.map (some (w5.heap.size + 1))] 87))
        rw [HSZ6.out] at this
        exact this
      have HQ14 : Hid (((w6.alloc (.map #[] 0)).alloc (Obj.cells #[.map (some (w5.heap.size + 1))] 87)).cell? ⟨w5.heap.size + 1 + 1, 0, none⟩ = some (.map (some (w5.heap.size + 1)))) := by
        have := cell_one (w6.alloc (.map #[] 0)) (.map (some (w5.heap.size + 1))) 87
        rw [World.size_alloc, HSZ6.out] at this
        exact this
      have HX8 : Hid (Ext w6 ((w6.alloc (.map #[] 0)).alloc (Obj.cells #[.map (some (w5.heap.size + 1))] 87))) := ((Ext.refl _).alloc _).alloc _
      clear hw6
      go_loopw [50] (fun i wr => ∃ k : Nat, k ≤ us.length ∧ i = .int .i64 k ∧ EachM w wr (w5.heap.size + 1) k (eachF S.rows ((splitV hints).2.take k)) ∧ Ext w6 wr ∧ wr.cell? ⟨w5.heap.size + 1 + 1, 0, none⟩ = some (.map (some (w5.heap.size + 1)))) (fun i _ => us.length - (intOf i).toNat)
      case atStart => exact ⟨0, Nat.zero_le _, rfl, HE0.out, HX8.out, HQ14.out⟩
      case round =>
        obtain ⟨k, hk, rfl, he, hx, hqe⟩ := hrel
        have HER := Lib.hid he
        have HXR := Lib.hid hx
        have HQR := Lib.hid hqe
        clear he hx hqe
        by_cases hlt : k < us.length
        · have hu : us[k]? = some us[k] := List.getElem?_eq_getElem hlt
          have hlt2 : k < (splitV hints).2.length := by rw [← HSP.out.len]; exact hlt
          have hg : (splitV hints).2[k]? = some (splitV hints).2[k] := List.getElem?_eq_getElem hlt2
          have hmem := List.getElem_mem hlt2
          have HT := Lib.hid (take_succ_of hg)
          have hou := HSP.out.each k _ _ hu hg
          have hgl := HL3.out _ hmem
          obtain ⟨y, t, hgy, hy1, hy2, hy3⟩ := HP2.out _ hmem
          generalize (splitV hints).2[k] = gg at hou hgl hgy HT
          subst hgy
          obtain ⟨Au, nu, cu, eu, hsu, hcu⟩ := hou.slc (by omega) (fun x hx => by
            rcases List.mem_cons.1 hx with e | e
            · subst e; have := HHH.out x hy2; omega
            · have := HHH.out x (hy3 x e).1; omega)
          rw [eu] at hu
          obtain ⟨ad, rfl⟩ : ∃ ad, Au = some ad := by
            obtain ⟨ad, e, _⟩ := hsu.2.2.2 (by rw [← hsu.1]; simp)
            exact ⟨ad, e⟩
          have hnu : nu ≤ 1000 := by have := hsu.1; omega
          obtain ⟨gb, rfl⟩ : ∃ gb, Ag = some ⟨gb, 0, none⟩ := by
            rcases HSP.out.rows.2 with ⟨e, _⟩ | ⟨g, cap, cur, e, _⟩
            · injection e with _ e; omega
            · injection e with e; exact ⟨g, e⟩
          have hcell := (HX65.out.trans HXR.out).cell (HSP.out.rows.cell1 hu).1
          have hyb := HHH.out y hy2
          have HSU := Lib.hid (hsu.ext (HX65.out.trans HXR.out))
          clear hu hlt2 hg hmem hou hgl hy2 hy3 eu hsu
          go_wp2_with fail
          refine (note_c ad nu cu y t ⟨w5.heap.size, 0, none⟩ ⟨w1.heap.size, 0, none⟩ ⟨w5.heap.size + 1 + 1, 0, none⟩ (.slice A5 n5 c5) w4.heap.size p b (w5.heap.size + 1) k S _ w wr HSU.out HM.out (HX1.out.trans (HX65.out.trans HXR.out)) HI.out (HV5.out.ext (HX6.out.trans HXR.out)) (by rw [idsR_len]; have := HRL.out; omega) HER.out (by omega) (by omega) (by omega) hcu (HXR.out.cell HQ13.out) ((HX6.out.trans HXR.out).cell HQ95.out) HQR.out).mono ?_
          rintro e w9 ⟨rfl, he9, hst9⟩
          have HE9 : Hid (EachM w w9 (w5.heap.size + 1) (k + 1) (eachF S.rows ((splitV hints).2.take (k + 1)))) := by
            rw [HT.out, eachF_snoc]; exact he9
          have HX9 : Hid (Ext w6 w9) := HXR.out.then_stay hst9 (fun j e => by subst e; rw [HSZ6.out]; exact Nat.le_refl _)
          have HQ9 : Hid (w9.cell? ⟨w5.heap.size + 1 + 1, 0, none⟩ = some (.map (some (w5.heap.size + 1)))) := hst9.cell HQR.out (by show ¬ (w5.heap.size + 1 + 1 = w5.heap.size + 1); omega)
          clear he9 hst9 hcell
          go_wp2_with fail
          go_roundw
          case rel => exact ⟨k + 1, by omega, by go_num, HE9.out, HX9.out, HQ9.out⟩
          case measure => simp [intOf]; omega
        · have hkn : k = us.length := by omega
          subst hkn
          have HEF : Hid (EachM w wr (w5.heap.size + 1) us.length (eachF S.rows (splitV hints).2)) := by
            have := HER.out
            rw [List.take_of_length_le (by rw [HSP.out.len]; exact Nat.le_refl _)] at this
            exact this
          clear HER
          have HXW := Lib.hid (HX65.out.trans HXR.out)
          have hcq9 := (HX6.out.trans HXR.out).cell HQ95.out
          have hcq13 := HXR.out.cell HQ13.out
          have hcq14 := HQR.out
          have hidl : (idsR S.rows).length ≤ 100000 := by rw [idsR_len]; exact HRL.out
          obtain ⟨A6, n6, c6, e6, hs6, hc6⟩ := OwnI.slc (HV5.out.ext (HX6.out.trans HXR.out)) (by omega) (fun x hx => by have := ids_bd HI.out x hx; omega)
          cases e6
          have hn6 : n5 ≤ 100000 := by have := hs6.1; omega
          have HS6 := Lib.hid (hs6.ext (Ext.drew (Ext.refl wr)))
          have HXD := Lib.hid (HX1.out.trans (HXW.out.drew))
          have HIL := Lib.hid hidl
          clear hs6 hidl
          obtain ⟨⟨r1, r2⟩, hRS⟩ : ∃ RS, ratShow (rowsR S.rows (idsR S.rows)) lits (rowsR S.rows (splitV hints).1) (eachF S.rows (splitV hints).2) = RS := ⟨_, rfl⟩
          have HRS := Lib.hid hRS
          rw [hRS] at HR
          clear hRS
          go_wp2
          go_region_law
            ((first
              | (go_simp; (with_reducible refine (rows11_c _ _ _ (idsR S.rows) p b S w _ HS6.out HM.out HXD.out HI.out (by omega)).mono ?_); rintro e w10 ⟨v10, rfl, ho10, hx10⟩; obtain ⟨A10, n10, c10, rfl, hs10, hc10⟩ := ho10.sl (HXD.out.trans hx10) (by rw [rowsR_len, idsR_len]; have := HRL.out; omega); have hcq9b := hx10.cell (show wr.drew.cell? _ = _ from hcq9); have hcq13b := hx10.cell (show wr.drew.cell? _ = _ from hcq13); have hcq14b := hx10.cell (show wr.drew.cell? _ = _ from hcq14); have HX10 := Lib.hid hx10; have HS10 := Lib.hid hs10; have HD10 := Lib.hid (HXD.out.trans hx10); have hn10 : n10 ≤ 100000 := (by have e1 := hs10.1; rw [rowsR_len] at e1; have := HIL.out; omega); clear ho10 hx10 hs10)
              | (go_simp; (with_reducible refine (ratShow_c _ _ _ (rowsR S.rows (idsR S.rows)) _ _ _ lits _ _ _ (rowsR S.rows (splitV hints).1) _ (eachF S.rows (splitV hints).2) _ HS10.out (HS.out.ext HD10.out) (HSF5.out.ext ((HX6.out.trans HXR.out).drew.trans HX10.out)) ((HEF.out.ext ((Ext.drew (Ext.refl wr)).trans HX10.out)).mapR HD10.out) (by omega) (by omega) (by omega) (fun d hd => by have := (rowsR_wide HI.out _ d hd).1; omega)).mono ?_); rintro e w11 ⟨rfl, hx11⟩; rw [HRS.out]; have HX11 := Lib.hid (HD10.out.trans hx11); clear hx11)))
          all_goals
            by_cases hr2 : r2 = 0
            · subst hr2
              go_wp2
              go_ret
              exact ⟨ret_int (by rw [HR.out, if_neg (by simp)]), HX11.out⟩
            · have hb : (r2 == 0) = false := by simpa using hr2
              go_wp2
              go_ret
              exact ⟨ret_int (by rw [HR.out, if_pos hr2]), HX11.out⟩
  · have hb : (E == 23) = false := by simpa using h23
    have HR : Hid (showR S.rows lits hints = E) := by unfold Hid; rw [HSH.out, if_pos (.inl h23)]
    clear HSH h23
    go_wp2_with fail
    go_ret
    exact ⟨ret_int HR.out.symm, HX1.out.trans HX4.out⟩
end Go.Proofs.Ytdgflniahoidmaa
