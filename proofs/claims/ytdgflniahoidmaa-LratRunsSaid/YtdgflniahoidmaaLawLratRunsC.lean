/- LratRuns answers true. -/
import Derived.Test.YtdgflniahoidmaaLr24
set_option maxRecDepth 100000
namespace Go.Proofs.Ytdgflniahoidmaa
open Go.RowKit Go.Maps

theorem models6_c (v : Int) (A : Option Addr) (a c : Nat) (L : List (List Int)) (w : World) (h : RowsSl w A a L) :
    Calls Try.prog 10 #[.agg #[.int .i64 v, .slice A a c], .int .i64 6] w fun e w' => ∃ A m c, e = .returned (.tuple #[.int .i64 (cnt11 L 6 64 : Nat), .slice A m c]) ∧ Ext w w' := models11_c v A a c L 6 w h (by decide)

/-- What is so at each round of the inner loop. -/
def NowAt (w0 w : World) (g p b : Nat) (S : CSt) (v5 v : Value) (y : Int) (L : List (List Int)) : Prop :=
  Blk w g 24 #[.int .i64 y, v] ∧ WRows w 0 v L ∧ CMem w p b S ∧ OwnI w 0 v5 (idsR S.rows) ∧ Ext w0 w
theorem now_set {w0 w : World} {g p b : Nat} {S : CSt} {v5 vold vnew : Value} {x y : Int} {M : List (List Int)} (hb : Blk w g 24 #[.int .i64 x, vold]) (hw : WRows w 0 vnew M) (hc : CMem w p b S) (ho : OwnI w 0 v5 (idsR S.rows)) (hx : Ext w0 w) (hg : w0.heap.size ≤ g) :
    NowAt w0 ((w.setCell ⟨g, 0, none⟩ (.int .i64 y)).setCell ⟨g, 1, none⟩ vnew) g p b S v5 vnew y M := by
  have one : ∀ {W : World} {cs : Array Value} (i : Nat) (u : Value), Blk W g 24 cs → WRows W 0 vnew M → CMem W p b S → OwnI W 0 v5 (idsR S.rows) → Ext w0 W →
      Blk (W.setCell ⟨g, i, none⟩ u) g 24 (cs.setIfInBounds i u) ∧ WRows (W.setCell ⟨g, i, none⟩ u) 0 vnew M ∧ CMem (W.setCell ⟨g, i, none⟩ u) p b S ∧ OwnI (W.setCell ⟨g, i, none⟩ u) 0 v5 (idsR S.rows) ∧ Ext w0 (W.setCell ⟨g, i, none⟩ u) := by
    intro W cs i u hb hw hc ho hx
    have gset : W.grownBy (W.setCell ⟨g, i, none⟩ u) (some g) := ⟨rfl, rfl, rfl, by rw [World.size_setCell]; exact Nat.le_refl _, fun k _ hk => Below.heap_setCell W _ u k (fun e => hk (by rw [e]))⟩
    refine ⟨hb.set_ i u, hw.blk_set hb (by decide) (by decide) gset, ⟨hc.blk.far (hc.blk.ne_ hb (by decide)) u, hc.map.cell hb (by decide) u⟩, ho.setCell (fun k e e2 => ho.ne_blk hb (by decide) (by rw [e, e2])) u, hx.setCell hg u⟩
  obtain ⟨h1, h2, h3, h4, h5⟩ := one 0 (.int .i64 y) hb hw hc ho hx
  exact one 1 vnew h1 h2 h3 h4 h5
theorem rows_at {S : CSt} (hi : Inv11 S) {j : Nat} {id : Int} (h : (idsR S.rows)[j]? = some id) : ∃ cl, (S.rows.map (·.2))[j]? = some cl ∧ getR S.rows id = some cl ∧ cl.length ≤ 1000 ∧ ∀ x ∈ cl, -100000 ≤ x ∧ x ≤ 100000 := by
  unfold idsR at h
  rw [List.getElem?_map, Option.map_eq_some_iff] at h
  obtain ⟨q, hq, rfl⟩ := h
  have hm := List.mem_of_getElem? hq
  have := hi.wide q hm
  exact ⟨q.2, by rw [List.getElem?_map, hq]; rfl, getR_of hi.rise q hm, this.1, this.2⟩
theorem rows_wide {S : CSt} (hi : Inv11 S) : ∀ xs ∈ S.rows.map (·.2), xs.length ≤ 1000 ∧ ∀ x ∈ xs, -100000 ≤ x ∧ x ≤ 100000 := by
  intro xs h
  obtain ⟨q, hq, rfl⟩ := List.mem_map.1 h
  exact hi.wide q hq

set_option maxRecDepth 100000 in
set_option maxHeartbeats 16000000 in
theorem lawLratRuns_c (x : Int) (A : Option Addr) (n c : Nat) (L : List (List Int)) (A' : Option Addr) (n' c' : Nat) (l : List Stp) (w : World) (hf : (-9223372036854775808 ≤ x ∧ x ≤ 9223372036854775807) ∧ RowsSl w A n L ∧ n ≤ c) (hs : StepsL w A' n' l) :
    Calls Try.prog 4 #[.agg #[.int .i64 x, .slice A n c], .slice A' n' c'] w fun e w' => e = .returned (.bool true) ∧ Ext w w' := by
  have HX0 := Lib.hid ((Ext.refl w).alloc (Obj.cells #[.int .i64 x, .slice A n c] 24))
  have HB0 := Lib.hid (Blk.new w 24 #[.int .i64 x, .slice A n c])
  have HFO := Lib.hid hf.2.1
  have HLN := Lib.hid hf.2.1.1
  have HST := Lib.hid hs
  clear hf hs
  have b0 := HB0.out.cell 0
  have b1 := HB0.out.cell 1
  go_enter Try.func4, Try.ntmps4
  go_wp2_with fail
  refine (few11_c x _ _ _ L _ _ _ l _ (HFO.out.ext HX0.out) (HST.out.ext HX0.out)).mono ?_
  rintro e w1 ⟨r, rfl, hr, hx1⟩
  have HX1 := Lib.hid (HX0.out.trans hx1)
  have HB1 := Lib.hid (HB0.out.ext hx1)
  have c0 := HB1.out.cell 0
  have c1 := HB1.out.cell 1
  clear hx1 b0 b1
  cases r
  · go_wp2_with fail
    refine (awake11_c _).mono ?_
    rintro e w2 ⟨rfl, hx2⟩
    have HX2 := Lib.hid (HX1.out.trans hx2)
    clear hx2
    go_wp2_with fail
    go_ret
    exact ⟨rfl, HX2.out⟩
  · obtain ⟨hn60, hn60'⟩ := hr rfl
    clear hr
    by_cases h6 : 6 < x
    · go_wp2_with fail
      refine (awake11_c _).mono ?_
      rintro e w2 ⟨rfl, hx2⟩
      have HX2 := Lib.hid (HX1.out.trans hx2)
      clear hx2
      go_wp2_with fail
      go_ret
      exact ⟨rfl, HX2.out⟩
    · by_cases h0 : x < 0
      · go_wp2_with fail
        refine (awake11_c _).mono ?_
        rintro e w2 ⟨rfl, hx2⟩
        have HX2 := Lib.hid (HX1.out.trans hx2)
        clear hx2
        go_wp2_with fail
        go_ret
        exact ⟨rfl, HX2.out⟩
      · obtain ⟨vn, rfl⟩ : ∃ vn : Nat, x = vn := ⟨x.toNat, by omega⟩
        have hvn : vn ≤ 6 := by omega
        go_wp2_with fail
        refine (new_c vn _ _ _ L _ (HFO.out.ext HX1.out) (by omega)).mono ?_
        intro e w2 hret
        unfold RetNew at hret
        by_cases hfc : (fCheckV vn L).2 = 0
        · rw [if_neg (by simpa using hfc)] at hret
          obtain ⟨p, b, rfl, hm2, hp2, hb2, hx2⟩ := hret
          have HPB : Hid (w.heap.size ≤ p ∧ w.heap.size ≤ b) := by have := HX1.out.size_le; exact ⟨by omega, by omega⟩
          have HF : Hid (∀ j, ChF p b j → w.heap.size ≤ j) := fun j e => by have := HPB.out; rcases e with e | e <;> subst e <;> omega
          have HM2 := Lib.hid hm2
          have HX2 := Lib.hid (HX1.out.trans hx2)
          have HB2 := Lib.hid (HB1.out.ext hx2)
          have d0 := HB2.out.cell 0
          have d1 := HB2.out.cell 1
          have HINV : Hid (Inv11 (newS L)) := newS_inv hfc (by rw [HLN.out]; omega)
          clear hm2 hp2 hb2 hx2 c0 c1 hfc
          go_wp2_with fail
          refine (models11_c vn _ _ _ L vn _ (HFO.out.ext HX2.out) hvn).mono ?_
          rintro e w3 ⟨A3, m3, c3, rfl, hx3⟩
          have HX3 := Lib.hid (HX2.out.trans hx3)
          have HM3 := Lib.hid (HM2.out.ext hx3)
          have HB3 := Lib.hid (HB2.out.ext hx3)
          have HL0 : Hid (LawAt L (cnt11 L vn (2 ^ vn)) 0 (newS L)) := ⟨HINV.out, by rw [newS_len]; omega, fun h => models_sat hvn h⟩
          generalize cnt11 L vn (2 ^ vn) = before at HL0 ⊢
          clear hx3 d0 d1 HM2
          go_wp2_with fail
          go_loopw [9] (fun i wr => ∃ (k : Nat) (S : CSt), k ≤ n' ∧ i = .int .i64 k ∧ CMem wr p b S ∧ LawAt L before k S ∧ Ext w wr) (fun i _ => n' - (intOf i).toNat)
          case atStart => exact ⟨0, _, Nat.zero_le _, rfl, HM3.out, HL0.out, HX3.out⟩
          case round =>
            obtain ⟨k, S, hk, rfl, hc, hla, hx⟩ := hrel
            have HC := Lib.hid hc
            have HLA := Lib.hid hla
            have HX := Lib.hid hx
            clear hc hla hx
            by_cases hlt : k < n'
            · obtain ⟨ad, s, rfl, hs, A1, n1, cc1, A2, n2, cc2, hat, hi1, hi2⟩ := HST.out.at_ hlt
              obtain ⟨q0, q1, q2, q3⟩ := hat.ext HX.out
              have HI1 := Lib.hid hi1
              have HI2 := Lib.hid hi2
              have HOUT : Hid (0 < n2 → Out (ChF p b) A2) := fun hn ad' e hF => by
                have := hi2.oldS hn ad' e
                have := HF.out _ hF
                omega
              clear hi1 hi2 hat hs
              go_wp2_with fail
              refine (step_c p b S s _ _ _ _ _ _ _ HC.out HLA.out.1 (by have h1 := HLA.out.2.1; rw [HLN.out] at h1; omega) (HI1.out.ext HX.out) (HI2.out.ext HX.out) HOUT.out).mono ?_
              rintro e w4 ⟨rfl, hm4, hst4⟩
              have HM4 := Lib.hid hm4
              have HX4 : Hid (Ext w w4) := HX.out.then_stay hst4 HF.out
              clear hm4 hst4 q0 q1 q2 q3
              obtain ⟨E, hE⟩ : ∃ E, stepE S s = E := ⟨_, rfl⟩
              have HE := Lib.hid hE
              rw [hE]
              clear hE
              by_cases hz : E = 0
              · subst hz
                have HLB := Lib.hid (HLA.out.step HE.out)
                generalize stepS S s = S' at HM4 HLB
                go_wp2_with fail
                have HXA : Hid (Ext w4 (w4.alloc (Obj.cells #[.int .i64 0, .slice none 0 0] 24))) := (Ext.refl w4).alloc _
                have HBA := Lib.hid (Blk.new w4 24 #[.int .i64 0, .slice none 0 0])
                have HGW : Hid (w.heap.size ≤ w4.heap.size) := HX4.out.size_le
                refine (ids_c _ p b S' (HM4.out.ext HXA.out) HLB.out.1).mono ?_
                rintro e w5 ⟨v5, rfl, hv5, hx5⟩
                have hil : (idsR S'.rows).length ≤ 200 := by rw [idsR_len]; have := HLB.out.2.1; rw [HLN.out] at this; omega
                obtain ⟨A5, n5, c5, rfl, hs5, hc5⟩ := hv5.slc (by omega) (fun y hy => by have := ids_bd HLB.out.1 y hy; omega)
                have hn5 : n5 ≤ 200 := by have := hs5.1; omega
                have HRN : Hid ((S'.rows.map (·.2)).length = n5) := by unfold Hid; rw [List.length_map, ← hs5.1, idsR_len]
                have HN5 : Hid (NowAt w w5 w4.heap.size p b S' (.slice A5 n5 c5) (.slice none 0 0) 0 []) := ⟨HBA.out.ext hx5, WRows.nil _ _, (HM4.out.ext HXA.out).ext hx5, hv5.less (Nat.zero_le _), HX4.out.trans (HXA.out.trans hx5)⟩
                generalize w4.heap.size = g10 at HN5 HGW ⊢
                clear hv5 hx5 hs5 hc5 hil HBA HXA
                go_wp2_with fail
                go_loopw [12] (fun i wj => ∃ (j : Nat) (v : Value), j ≤ n5 ∧ i = .int .i64 j ∧ NowAt w wj g10 p b S' (.slice A5 n5 c5) v (withV 0 ((S'.rows.map (·.2)).take j)) ((S'.rows.map (·.2)).take j)) (fun i _ => n5 - (intOf i).toNat)
                case atStart => exact ⟨0, _, Nat.zero_le _, rfl, HN5.out⟩
                case round =>
                  obtain ⟨j, v, hj, rfl, hnow⟩ := hrel
                  obtain ⟨hbj, hwj, hcj, hoj, hxj⟩ := hnow
                  generalize hM : (S'.rows.map (·.2)).take j = M at hbj hwj
                  have HM := Lib.hid hM
                  clear hM
                  obtain ⟨Ao, no, co, rfl, hno, hnc⟩ := hwj.form
                  obtain ⟨A7, n7, c7, e7, hs7, _⟩ := hoj.slc (by have := HRN.out; rw [List.length_map] at this; rw [idsR_len]; omega) (fun y hy => by have := ids_bd HLB.out.1 y hy; omega)
                  cases e7
                  have HBJ := Lib.hid hbj
                  have HWJ := Lib.hid hwj
                  have HCJ := Lib.hid hcj
                  have HOJ := Lib.hid hoj
                  have HXJ := Lib.hid hxj
                  have HS7 := Lib.hid hs7
                  have t0 := hbj.cell 0
                  have t1 := hbj.cell 1
                  clear hbj hwj hcj hoj hxj hs7 hno
                  by_cases hjn : j < n5
                  · obtain ⟨ad5, id, rfl, hid, hcid, hid1, hid2⟩ := HS7.out.at_ hjn
                    obtain ⟨cl, hcl, hget, hcll, hclb⟩ := rows_at HLB.out.1 hid.out
                    have HCL := Lib.hid hcl
                    have HGET := Lib.hid hget
                    have HCLB := Lib.hid hclb
                    have HID := Lib.hid hid.out
                    clear hcl hget hclb hid
                    clear t0 t1
                    go_wp2_with fail
                    refine (Clause_c _ p b S' HCJ.out HLB.out.1 id ⟨hid1, hid2⟩).mono ?_
                    rintro e w6 ⟨v6, rfl, hv6, hx6⟩
                    rw [HGET.out] at hv6 ⊢
                    rw [show (some cl).isSome = true from rfl]
                    obtain ⟨A6, n6, c6, rfl, hs6, hc6⟩ := hv6.slc (by show cl.length ≤ _; omega) (fun y hy => by have := HCLB.out y hy; omega)
                    have HX6 := Lib.hid hx6
                    have HS6 := Lib.hid hs6
                    clear hv6 hx6 hs6 hc6
                    have hcid6 := HX6.out.cell hcid
                    clear hcid
                    have HB6 := Lib.hid (HBJ.out.ext HX6.out)
                    have t0 := HB6.out.cell 0
                    have t1 := HB6.out.cell 1
                    obtain ⟨A9, n9, c9, e9, hrs9, _⟩ := HWJ.out.sl (fun xs hxs => by
                      rw [← HM.out] at hxs
                      have := rows_wide HLB.out.1 xs (List.mem_of_mem_take hxs)
                      exact ⟨by omega, fun y hy => by have := this.2 y hy; omega⟩) (by rw [← HM.out, List.length_take]; omega)
                    cases e9
                    have hno6 : no ≤ 1000000 := by have := hrs9.1; rw [← HM.out, List.length_take] at this; omega
                    have HRJ := Lib.hid hrs9
                    have HWB : Hid (0 ≤ withV 0 M ∧ withV 0 M ≤ 100000) := by have := withV_le M 0; exact ⟨this.1, by omega⟩
                    have HLEN : Hid (∀ xs ∈ M ++ [cl], xs.length ≤ 1000000) := fun xs hxs => by
                      rcases List.mem_append.1 hxs with h | h
                      · rw [← HM.out] at h; have := (rows_wide HLB.out.1 xs (List.mem_of_mem_take h)).1; omega
                      · rw [List.mem_singleton.1 h]; omega
                    clear hrs9
                    rcases Nat.eq_zero_or_pos j with hj0 | hj0
                    · subst hj0
                      go_wp2
                      go_quiet (fail)
                      go_wp2_with fail
                      refine (withW_c (withV 0 M) _ _ _ M _ _ _ [cl] _ (HRJ.out.ext (HX6.out.trans (((Ext.refl w6).drewN _).alloc _))) (rowsSl_newg _ _ [cl] 1 rfl (by decide) (by simp) (RowVals.cons (HS6.out.ext ((Ext.refl w6).drewN _)) (RowVals.nil _))) (by have := HWB.out; omega) (by have := HWB.out; omega) hno6 (by decide) HLEN.out).mono ?_
                      rintro e w8 ⟨A8, n8, c8, rfl, hrs8, hnc8, hx8, hw8⟩
                      have hx68 := (((Ext.refl w6).drewN _).alloc _).trans hx8
                      have hb8 := HB6.out.ext hx68
                      have HNEW := Lib.hid (now_set (y := withV (withV 0 M) [cl]) hb8 (hw8.less (Nat.zero_le _)) ((HCJ.out.ext HX6.out).ext hx68) ((HOJ.out.ext HX6.out).ext hx68) (HXJ.out.trans (HX6.out.trans hx68)) HGW.out)
                      have u0 := hb8.cell 0
                      have u1 := hb8.cell 1
                      have f0 := hb8.frozen 0
                      have f1 := hb8.frozen 1
                      clear hrs8 hx8 hw8 hx68 hb8 t0 t1
                      go_wp2_with fail
                      go_roundw
                      case rel =>
                        refine ⟨0 + 1, .slice A8 n8 c8, by omega, by go_num, ?_⟩
                        rw [take_succ_of HCL.out, HM.out, withV_snoc]
                        exact HNEW.out
                      case measure => simp [intOf]; omega
                    · obtain ⟨j', rfl⟩ : ∃ j', j = j' + 1 := ⟨j - 1, by omega⟩
                      obtain ⟨ad6, id', e6, hid', hcid', hb1, _⟩ := HS7.out.at_ (k := j') (by omega)
                      cases e6
                      have hidl : id' < id := by
                        have g1 := List.getElem?_eq_some_iff.1 HID.out
                        have g2 := List.getElem?_eq_some_iff.1 hid'.out
                        have := List.pairwise_iff_getElem.1 HLB.out.1.rise j' (j' + 1) g2.1 g1.1 (by omega)
                        rw [g1.2, g2.2] at this
                        exact this
                      have hcid6' := HX6.out.cell hcid'
                      have g2 : decide (id ≤ id') = false := decide_eq_false (by omega)
                      have g3 : (j' : Int) + 1 < (n5 : Int) := by omega
                      have g4 : (0 : Int) ≤ (j' : Int) + 1 := by omega
                      have g5 : (j' : Int) < (n5 : Int) := by omega
                      have g6 : (0 : Int) ≤ (j' : Int) := by omega
                      have hcid7 : w6.cell? ⟨ad5.block, ad5.off + (j' + 1), none⟩ = some (.int .i64 id) := by
                        have e := hcid6
                        rwa [show ad5.add (j' + 1) = ⟨ad5.block, ad5.off + (j' + 1), none⟩ by unfold Addr.add; rw [if_neg (by omega)]] at e
                      clear hcid' hid'
                      go_wp2
                      go_quiet (fail)
                      go_wp2_with fail
                      refine (withW_c (withV 0 M) _ _ _ M _ _ _ [cl] _ (HRJ.out.ext (HX6.out.trans (((Ext.refl w6).drewN _).alloc _))) (rowsSl_newg _ _ [cl] 1 rfl (by decide) (by simp) (RowVals.cons (HS6.out.ext ((Ext.refl w6).drewN _)) (RowVals.nil _))) (by have := HWB.out; omega) (by have := HWB.out; omega) hno6 (by decide) HLEN.out).mono ?_
                      rintro e w8 ⟨A8, n8, c8, rfl, hrs8, hnc8, hx8, hw8⟩
                      have hx68 := (((Ext.refl w6).drewN _).alloc _).trans hx8
                      have hb8 := HB6.out.ext hx68
                      have HNEW := Lib.hid (now_set (y := withV (withV 0 M) [cl]) hb8 (hw8.less (Nat.zero_le _)) ((HCJ.out.ext HX6.out).ext hx68) ((HOJ.out.ext HX6.out).ext hx68) (HXJ.out.trans (HX6.out.trans hx68)) HGW.out)
                      have u0 := hb8.cell 0
                      have u1 := hb8.cell 1
                      have f0 := hb8.frozen 0
                      have f1 := hb8.frozen 1
                      clear hrs8 hx8 hw8 hx68 hb8 t0 t1
                      go_wp2_with fail
                      go_roundw
                      case rel =>
                        refine ⟨(j' + 1) + 1, .slice A8 n8 c8, by omega, by go_num, ?_⟩
                        rw [take_succ_of HCL.out, HM.out, withV_snoc]
                        exact HNEW.out
                      case measure => simp [intOf]; omega
                  · have hjn5 : j = n5 := by omega
                    have hMR : M = S'.rows.map (·.2) := by rw [← HM.out, List.take_of_length_le (by rw [HRN.out]; omega)]
                    obtain ⟨A9, n9, c9, e9, hrs9, _⟩ := HWJ.out.sl (fun xs hxs => by
                      rw [hMR] at hxs
                      have := rows_wide HLB.out.1 xs hxs
                      exact ⟨by omega, fun y hy => by have := this.2 y hy; omega⟩) (by rw [hMR]; have := HRN.out; omega)
                    cases e9
                    have HRJ := Lib.hid hrs9
                    have HLEFT : Hid (withV 0 M ≤ 6 → 0 < before → 0 < cnt11 M 6 64) := fun hv hb => by rw [hMR] at hv ⊢; exact HLB.out.left hb hv
                    clear hrs9 hMR hjn5
                    by_cases hv6 : 6 < withV 0 M
                    · go_wp2_with fail
                      refine (awake11_c _).mono ?_
                      rintro e w9 ⟨rfl, hx9⟩
                      have HX9 := Lib.hid (HXJ.out.trans hx9)
                      clear hx9
                      go_wp2_with fail
                      go_ret
                      exact ⟨rfl, HX9.out⟩
                    · go_wp2_with fail
                      refine (models6_c (withV 0 M) _ _ _ M _ HRJ.out).mono ?_
                      rintro e w9 ⟨A9, n9, c9, rfl, hx9⟩
                      have HX9 := Lib.hid (HXJ.out.trans hx9)
                      have HC9 := Lib.hid (HCJ.out.ext hx9)
                      have hleft := HLEFT.out (by omega)
                      clear hx9 t0 t1 HLEFT
                      generalize cnt11 M 6 64 = left at hleft ⊢
                      by_cases hb : 0 < before
                      · have hl := hleft hb
                        have hlb : ((left : Int) == 0) = false := by rw [beq_eq_false_iff_ne]; omega
                        have hb' : (0 : Int) < (before : Int) := by omega
                        go_wp2_with fail
                        go_roundw
                        case rel => exact ⟨k + 1, S', by omega, by go_num, HC9.out, HLB.out, HX9.out⟩
                        case measure => simp [intOf]; omega
                      · have hb' : decide ((0 : Int) < (before : Int)) = false := decide_eq_false (by omega)
                        have hb2 : decide (0 < before) = false := decide_eq_false (by omega)
                        clear hleft hb
                        go_wp2_with fail
                        go_roundw
                        case rel => exact ⟨k + 1, S', by omega, by go_num, HC9.out, HLB.out, HX9.out⟩
                        case measure => simp [intOf]; omega
              · have hb : (E == 0) = false := by simpa using hz
                go_wp2_with fail
                refine (awake11_c _).mono ?_
                rintro e w5 ⟨rfl, hx5⟩
                have HX5 := Lib.hid (HX4.out.trans hx5)
                clear hx5
                go_wp2_with fail
                go_ret
                exact ⟨rfl, HX5.out⟩
            · go_wp2_with fail
              refine (awake11_c _).mono ?_
              rintro e w5 ⟨rfl, hx5⟩
              have HX5 := Lib.hid (HX.out.trans hx5)
              clear hx5
              go_wp2_with fail
              go_ret
              exact ⟨rfl, HX5.out⟩
        · rw [if_pos hfc] at hret
          obtain ⟨rfl, hx2⟩ := hret
          have HX2 := Lib.hid (HX1.out.trans hx2)
          have hb : ((fCheckV vn L).2 == 0) = false := by simpa using hfc
          generalize (fCheckV vn L).2 = q at hb
          clear hx2 hfc
          go_wp2_with fail
          refine (awake11_c _).mono ?_
          rintro e w5 ⟨rfl, hx5⟩
          have HX5 := Lib.hid (HX2.out.trans hx5)
          clear hx5
          go_wp2_with fail
          go_ret
          exact ⟨rfl, HX5.out⟩
end Go.Proofs.Ytdgflniahoidmaa
