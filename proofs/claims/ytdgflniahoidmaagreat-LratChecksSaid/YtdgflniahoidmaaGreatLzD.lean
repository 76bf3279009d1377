/- The reference of layer 11: rows, read in an older world; show. -/
import Derived.Test.YtdgflniahoidmaaGreatLzA
import Derived.Test.YtdgflniahoidmaaGreatLz7
import Derived.Test.YtdgflniahoidmaaGreatLr15
set_option maxRecDepth 100000
namespace Go.Proofs.YtdgflniahoidmaaGreat
open Go.RowKit

/-- Candidates' numbers and their hints, read. -/
def EchAt (w : World) (ad : Addr) (j : Nat) (e : Int × List (List Int)) : Prop :=
  ∃ A' n' c', w.cell? (ad.add (j * 2)) = some (.int .i64 e.1) ∧ w.cell? ⟨(ad.add (j * 2)).block, (ad.add (j * 2)).off + 1, none⟩ = some (.slice A' n' c') ∧ RowsSl w A' n' e.2
def RowsE (w : World) (A : Option Addr) (n : Nat) (E : List (Int × List (List Int))) : Prop :=
  E.length = n ∧ n ≤ 9223372036854775807 ∧ (0 < n → ∃ ad, A = some ad ∧ ∀ (j : Nat) (e : Int × List (List Int)), E[j]? = some e → EchAt w ad j e)
theorem EchAt.ext {w w' : World} {ad : Addr} {j : Nat} {e : Int × List (List Int)} (h : EchAt w ad j e) (hx : Ext w w') : EchAt w' ad j e := by
  obtain ⟨A, n, c, h1, h2, h3⟩ := h
  exact ⟨A, n, c, hx.cell h1, hx.cell h2, h3.ext hx⟩
theorem RowsE.ext {w w' : World} {A : Option Addr} {n : Nat} {E : List (Int × List (List Int))} (h : RowsE w A n E) (hx : Ext w w') : RowsE w' A n E :=
  ⟨h.1, h.2.1, fun hn => let ⟨ad, e, hc⟩ := h.2.2 hn; ⟨ad, e, fun j p hp => (hc j p hp).ext hx⟩⟩
theorem RowsE.at_ {w : World} {A : Option Addr} {n : Nat} {E : List (Int × List (List Int))} (h : RowsE w A n E) {k : Nat} (hk : k < n) : ∃ ad e, A = some ad ∧ Hid (E[k]? = some e) ∧ EchAt w ad k e := by
  obtain ⟨ad, e, hc⟩ := h.2.2 (by omega)
  have hkl : k < E.length := by rw [h.1]; exact hk
  exact ⟨ad, E[k], e, List.getElem?_eq_getElem hkl, hc k _ (List.getElem?_eq_getElem hkl)⟩
/-- The last hints that are told of a candidate. -/
def lastH (E : List (Int × List (List Int))) (z : Int) : Option (List (List Int)) := E.foldl (fun o e => if e.1 = z then some e.2 else o) none
theorem lastH_snoc (E : List (Int × List (List Int))) (e : Int × List (List Int)) (z : Int) : lastH (E ++ [e]) z = if e.1 = z then some e.2 else lastH E z := by unfold lastH; rw [List.foldl_append]; rfl
def okB (o : Option (List (List Int))) (l c : List Int) (p : Int) : Bool := match o with | none => false | some hs => refuteV l c p hs == 0
theorem refB_ok (F : Int → Option (List (List Int))) (l c : List Int) (p i : Int) : refB F l c p i = okB (F i) l c p := by
  unfold refB okB
  cases F i with
  | none => rfl
  | some hs => by_cases h : refuteV l c p hs = 0 <;> simp [h]

set_option maxHeartbeats 8000000 in
theorem r9Show_c (A : Option Addr) (n c : Nat) (L : List (List Int)) (A1 : Option Addr) (n1 c1 : Nat) (cl : List Int) (A2 : Option Addr) (n2 c2 : Nat) (ah : List (List Int)) (A3 : Option Addr) (n3 c3 : Nat) (E : List (Int × List (List Int))) (w : World)
    (h : RowsSl w A n L) (h1 : IntSl w A1 n1 cl) (hnc : n1 ≤ c1) (h2 : RowsSl w A2 n2 ah) (h3 : RowsE w A3 n3 E) (hsm : n ≤ 1000000) (hsm1 : n1 ≤ 1000000) (hsm2 : n2 ≤ 1000000) (hsm3 : n3 ≤ 100000000) (hrows : ∀ d ∈ L, d.length ≤ 10000000) (hE : ∀ e ∈ E, e.2.length ≤ 10000000) :
    Calls Tryz.prog 54 #[.slice A n c, .slice A1 n1 c1, .slice A2 n2 c2, .slice A3 n3 c3] w (RetShow (ratShow L cl ah (lastH E)) w) := by
  have HLn := Lib.hid h.1
  have HL1 := Lib.hid h1.1
  have HL2 := Lib.hid h2.1
  have HL3 := Lib.hid h3.1
  have HS := Lib.hid h
  have HS1 := Lib.hid h1
  have HS2 := Lib.hid h2
  have HS3 := Lib.hid h3
  have HRO := Lib.hid hrows
  have HEB := Lib.hid hE
  clear h h1 h2 h3 hrows hE
  go_enter Tryz.func54, Tryz.ntmps54
  go_wp2_with fail
  refine (rRupStart_c _ _ _ cl _ HS1.out hnc (by omega)).mono ?_
  rintro e w1 ⟨v, rfl, hv, hx1⟩
  have hsl := startV_len cl
  have hsb := startV_bd cl
  obtain ⟨A5, n5, c5, rfl, hs5⟩ := hv.sl (by have := HL1.out; omega) (fun y hy => by have := hsb y hy; omega)
  have hn5 : n5 ≤ 1000000 := by have := hs5.1; have := HL1.out; omega
  have HX1 := Lib.hid hx1
  have HS5 := Lib.hid hs5
  clear hv hx1 hsl hsb hs5
  by_cases he : startE cl = 0
  · have HE := Lib.hid he
    rw [he]
    clear he
    by_cases hc0 : n1 = 0
    · subst hc0
      have HR : Hid (ratShow L cl ah (lastH E) = (-1, 11)) := by
        have : cl = [] := List.eq_nil_of_length_eq_zero HL1.out
        subst this
        rfl
      go_wp2_with fail
      go_ret2
      exact ⟨by rw [HR.out]; rfl, HX1.out⟩
    · have hc1 : 0 < n1 := by omega
      have hc1i : ((n1 : Int) == 0) = false := by rw [beq_eq_false_iff_ne]; omega
      clear hc0
      obtain ⟨p, xs, hcl⟩ : ∃ p xs, cl = p :: xs := by
        cases cl with
        | nil => have := HL1.out; simp at this; omega
        | cons p xs => exact ⟨p, xs, rfl⟩
      have hRR : ratShow L cl ah (lastH E) = if (chainV (startV cl) ah 0).2.2 ≠ 23 then (-1, (chainV (startV cl) ah 0).2.2) else
          match (candV p L).find? (fun i => !refB (lastH E) (chainV (startV cl) ah 0).1 (L.getD i.toNat []) p i) with | some i => (i, 24) | none => ((candV p L).length, 0) := by
        unfold ratShow
        rw [if_neg (by rw [HE.out]; decide), if_neg (by rw [hcl]; simp), hcl]
        rfl
      have HRR := Lib.hid hRR
      have HCL := Lib.hid hcl
      clear hRR hcl
      go_wp2_with fail
      refine (rRupChain_c _ _ _ (startV cl) _ _ _ ah _ HS5.out (HS2.out.ext HX1.out) (by omega) (by omega)).mono ?_
      rintro e w2 ⟨A6, n6, c6, rfl, hs6, hx2⟩
      have hcn := chainV_len ah (startV cl) 0
      have hn6 : n6 ≤ 10000000 := by have e1 := hs6.1; have e2 := HL2.out; have e3 := HS5.out.1; omega
      obtain ⟨r, hr⟩ : ∃ r, chainV (startV cl) ah 0 = r := ⟨_, rfl⟩
      rw [hr] at hs6
      rw [hr]
      have HRE := Lib.hid hr
      have HX2 := Lib.hid (HX1.out.trans hx2)
      have HS6 := Lib.hid hs6
      clear hx2 hs6 hr hcn
      by_cases h23 : r.2.2 = 23
      · have H23 := Lib.hid h23
        rw [h23]
        clear h23
        obtain ⟨ad1, p', rfl, hp', hcp, hp1, hp2⟩ := (HS1.out.ext HX2.out).at_ hc1
        have hpp : p' = p := by have := hp'.out; rw [HCL.out] at this; simpa using this.symm
        subst hpp
        have b1 : (0 : Int) < (n1 : Int) := by omega
        have k7 : w2.cell? ad1 = some (.int .i64 p') := by
          have e0 : ad1.add 0 = ad1 := by unfold Addr.add; split <;> simp_all
          rw [e0] at hcp; exact hcp
        clear hp' hcp
        go_wp2_with fail
        refine (r9Cands_c _ _ _ L _ _ (HS.out.ext HX2.out) (by omega)).mono ?_
        rintro e w4 ⟨v4, rfl, ho4, hx4⟩
        have hcm : ∀ x ∈ candV p' L, -9223372036854775808 ≤ x ∧ x ≤ 9223372036854775807 := fun x hx => by
          obtain ⟨j, e, hj, _⟩ := candL_mem hx
          have := HLn.out
          omega
        obtain ⟨A7, n7, c7, rfl, hs7⟩ := ho4.sl (by have e1 := candL_len p' L L.length; have e2 := HLn.out; unfold candV; omega) hcm
        have hn7 := hs7.2.1
        have HN7 := Lib.hid hs7.1
        have HS7 := Lib.hid hs7
        have K7 := Lib.hid (hx4.cell k7)
        have HS64 := Lib.hid (HS6.out.ext hx4)
        have HX4 := Lib.hid (HX2.out.trans hx4)
        clear ho4 hx4 hcm hs7 k7
        go_wp2_with fail
        go_loopw [8, 9, 13, 14, 15] (fun _ _ i _ _ wr => ∃ k : Nat, k ≤ n7 ∧ i = .int .i64 k ∧ ((candV p' L).take k).find? (fun i => !refB (lastH E) r.1 (L.getD i.toNat []) p' i) = none ∧ Ext w4 wr) (fun _ _ i _ _ _ => n7 - (intOf i).toNat)
        case atStart => exact ⟨0, Nat.zero_le _, rfl, rfl, Ext.refl _⟩
        case round =>
          obtain ⟨k, hk, rfl, hno, hxr⟩ := hrel
          obtain ⟨wo, rfl⟩ : ∃ x, x = wr := ⟨_, rfl⟩
          have HNO := Lib.hid hno
          have HXR := Lib.hid hxr
          clear hno hxr
          by_cases hlt : k < n7
          · obtain ⟨ad, ci, rfl, hci, hcc, _, _⟩ := (HS7.out.ext HXR.out).at_ hlt
            obtain ⟨j, hj, hjl, _⟩ := candL_mem (List.mem_of_getElem? hci.out)
            subst hj
            have hjn : j < n := by have := HLn.out; omega
            obtain ⟨adL, cj, A8, n8, c8, rfl, hcj, hcl8, hs8⟩ := (HS.out.ext (HX4.out.trans HXR.out)).at_ hjn
            have HGD : Hid (L.getD ((j : Int)).toNat [] = cj) := by unfold Hid; rw [Int.toNat_natCast, List.getD_eq_getElem?_getD, hcj.out]; rfl
            have hcjl : n8 ≤ 10000000 := by have e1 := HRO.out cj (List.mem_of_getElem? hcj.out); have e2 := hs8.1; omega
            have HS8 := Lib.hid hs8
            have HCC := Lib.hid hcc
            have HC8 := Lib.hid hcl8
            clear hcj hjl hs8 hcc hcl8
            go_wp2_with fail
            go_loopw [14, 15] (fun v i wj => ∃ q : Nat, q ≤ n3 ∧ i = .int .i64 q ∧ v = .bool (okB (lastH (E.take q) j) r.1 cj p') ∧ Ext wo wj) (fun _ i _ => n3 - (intOf i).toNat)
            case atStart => exact ⟨0, Nat.zero_le _, rfl, rfl, Ext.refl _⟩
            case round =>
              obtain ⟨q, hq, rfl, rfl, hxj⟩ := hrel
              have HXJ := Lib.hid hxj
              clear hxj
              by_cases hqn : q < n3
              · obtain ⟨ad3, e, rfl, hek, A9, n9, c9, h91, h92, h93⟩ := (HS3.out.ext ((HX4.out.trans HXR.out).trans HXJ.out)).at_ hqn
                have hcc := HXJ.out.cell HCC.out
                have hc8 := HXJ.out.cell HC8.out
                have hn9 : n9 ≤ 10000000 := by have e1 := HEB.out e (List.mem_of_getElem? hek.out); have e2 := h93.1; omega
                have HS9 := Lib.hid h93
                have HTK : Hid (lastH (E.take (q + 1)) j = if e.1 = (j : Int) then some e.2 else lastH (E.take q) j) := by unfold Hid; rw [take_succ_of hek.out, lastH_snoc]
                clear h93 hek
                by_cases hez : e.1 = (j : Int)
                · have heb : (e.1 == (j : Int)) = true := by simpa using hez
                  have HB : Hid (okB (lastH (E.take (q + 1)) j) r.1 cj p' = (refuteV r.1 cj p' e.2 == 0)) := by unfold Hid; rw [HTK.out, if_pos hez]; rfl
                  have k7 := ((HXR.out.trans HXJ.out).cell K7.out)
                  clear hez
                  go_wp2
                  go_quiet (fail)
                  go_wp2_with fail
                  go_region_law
                    ((first
                      | (go_simp; (with_reducible refine (r9Refute_c _ _ _ r.1 _ _ _ cj p' _ _ _ e.2 _ (HS64.out.ext ((HXR.out.trans HXJ.out).trans ((Ext.refl wr).drewN _))) (HS8.out.ext (HXJ.out.trans ((Ext.refl wr).drewN _))) (HS9.out.ext ((Ext.refl wr).drewN _)) (by omega) (by omega) (by omega)).mono ?_); rintro _ w5 ⟨rfl, hx5⟩; have HX5 : Hid (Ext wo w5) := HXJ.out.trans (((Ext.refl wr).drewN _).trans hx5); clear hx5)))
                  all_goals
                    go_wp2_with fail
                    go_roundw
                    case rel => exact ⟨q + 1, by omega, by go_num, by rw [HB.out], HX5.out⟩
                    case measure => simp [intOf]; omega
                · have heb : (e.1 == (j : Int)) = false := by simpa using hez
                  have HB : Hid (okB (lastH (E.take (q + 1)) j) r.1 cj p' = okB (lastH (E.take q) j) r.1 cj p') := by unfold Hid; rw [HTK.out, if_neg hez]
                  clear hez
                  go_wp2
                  go_quiet (fail)
                  go_wp2_with fail
                  go_roundw
                  case rel => exact ⟨q + 1, by omega, by go_num, by rw [HB.out], HXJ.out.drewN _⟩
                  case measure => simp [intOf]; omega
              · have HOK : Hid (okB (lastH (E.take q) j) r.1 cj p' = refB (lastH E) r.1 (L.getD ((j : Int)).toNat []) p' j) := by
                  unfold Hid
                  rw [HGD.out, refB_ok, List.take_of_length_le (by have := HL3.out; omega)]
                obtain ⟨B, hB⟩ : ∃ B, refB (lastH E) r.1 (L.getD ((j : Int)).toNat []) p' j = B := ⟨_, rfl⟩
                have HBB := Lib.hid hB
                rw [HOK.out, hB]
                clear hB
                have hcc := HXJ.out.cell HCC.out
                cases B with
                | false =>
                  have HR : Hid (ratShow L cl ah (lastH E) = ((j : Int), 24)) := by
                    unfold Hid
                    rw [HRR.out, HRE.out, if_neg (by rw [H23.out]; decide), findR_hit HNO.out hci.out (by rw [HBB.out]; rfl)]
                  go_wp2_with fail
                  go_ret2
                  exact ⟨by rw [HR.out]; rfl, (HX4.out.trans HXR.out).trans HXJ.out⟩
                | true =>
                  go_wp2_with fail
                  go_roundw
                  case rel => exact ⟨k + 1, by omega, by go_num, findR_snoc HNO.out hci.out (by rw [HBB.out]; rfl), HXR.out.trans HXJ.out⟩
                  case measure => simp [intOf]; omega
          · have HR : Hid (ratShow L cl ah (lastH E) = ((n7 : Int), 0)) := by
              unfold Hid
              have e1 := HNO.out
              rw [List.take_of_length_le (by have := HN7.out; omega)] at e1
              rw [HRR.out, HRE.out, if_neg (by rw [H23.out]; decide), e1, HN7.out]
            go_wp2_with fail
            go_ret2
            exact ⟨by rw [HR.out]; rfl, HX4.out.trans HXR.out⟩
      · have h23' : (r.2.2 != 23) = true := by simpa using h23
        have HR : Hid (ratShow L cl ah (lastH E) = (-1, r.2.2)) := by unfold Hid; rw [HRR.out, HRE.out, if_pos h23]
        clear h23
        go_wp2_with fail
        go_ret2
        exact ⟨by rw [HR.out]; rfl, HX2.out⟩
  · have hb : (startE cl != 0) = true := by simpa using he
    have HR : Hid (ratShow L cl ah (lastH E) = (-1, startE cl)) := by unfold Hid ratShow; rw [if_pos he]
    clear he
    go_wp2_with fail
    go_ret2
    exact ⟨by rw [HR.out]; rfl, HX1.out⟩
end Go.Proofs.YtdgflniahoidmaaGreat

namespace Go.Proofs.YtdgflniahoidmaaGreat
open Go.RowKit

/-! ### Plain: the places of a number among numbers that rise -/
def atL (ids : List Int) (x : Int) (q : Nat) : List Nat := (List.range q).filter fun k => decide (ids.getD k 0 = x)
theorem atL_succ (ids : List Int) (x : Int) (q : Nat) : atL ids x (q + 1) = atL ids x q ++ (if ids.getD q 0 = x then [q] else []) := by
  unfold atL
  rw [List.range_succ, List.filter_append]
  congr 1
  rw [List.filter_cons, List.filter_nil]
  by_cases h : ids.getD q 0 = x
  · rw [if_pos h, if_pos (by simpa using h)]
  · rw [if_neg h, if_neg (by simpa using h)]
theorem atL_len (ids : List Int) (x : Int) (q : Nat) : (atL ids x q).length ≤ q := by
  unfold atL
  exact Nat.le_trans (List.length_filter_le _ _) (by rw [List.length_range]; exact Nat.le_refl _)
theorem atL_rise (ids : List Int) (x : Int) (hr : ids.Pairwise (· < ·)) : ∀ q : Nat, q ≤ ids.length → (atL ids x q).map (fun (k : Nat) => (k : Int)) = if hasV (ids.take q) x then [posV (ids.take q) x] else []
  | 0, _ => by simp [atL, hasV]
  | q + 1, hq => by
    have ih := atL_rise ids x hr q (by omega)
    have hy : ids[q]? = some ids[q] := List.getElem?_eq_getElem (by omega)
    have hgd : ids.getD q 0 = ids[q] := by rw [List.getD_eq_getElem?_getD, hy]; rfl
    have ht := take_succ_of hy
    have hp : (ids.take q ++ [ids[q]]).Pairwise (· < ·) := by rw [← ht]; exact hr.sublist (List.take_sublist _ _)
    rw [List.pairwise_append] at hp
    have hlt : ∀ a ∈ ids.take q, a < ids[q] := fun a ha => hp.2.2 a ha _ (by simp)
    rw [atL_succ, List.map_append, ih, ht, hgd]
    generalize ids[q] = y at hlt
    have hlen : (ids.take q).length = q := by rw [List.length_take]; omega
    generalize ids.take q = T at hlt hlen
    by_cases hyx : y = x
    · subst hyx
      have hn : hasV T y = false := by
        unfold hasV
        rw [List.any_eq_false]
        intro a ha
        have := hlt a ha
        simp; omega
      have hs : hasV (T ++ [y]) y = true := by unfold hasV; rw [List.any_append]; simp
      have hc : posV (T ++ [y]) y = (q : Int) := by
        unfold posV
        rw [List.countP_append, List.countP_eq_length.2 (fun a ha => by simpa using hlt a ha), hlen]
        simp
      rw [hn, hs, hc]
      simp
    · have hs : hasV (T ++ [y]) x = hasV T x := by unfold hasV; rw [List.any_append]; simp [hyx]
      rw [hs, if_neg hyx]
      by_cases hT : hasV T x = true
      · have hm : x ∈ T := by unfold hasV at hT; rw [List.any_eq_true] at hT; obtain ⟨a, ha, e⟩ := hT; have : a = x := by simpa using e
                              subst this; exact ha
        have hc : posV (T ++ [y]) x = posV T x := by
          unfold posV
          rw [List.countP_append]
          have := hlt x hm
          have e : List.countP (fun y => decide (y < x)) [y] = 0 := by simp; omega
          rw [e]; rfl
        rw [hT, hc]
        simp
      · rw [if_neg hT, if_neg hT]; rfl
/-- What is told of a group. -/
def groupE (R : List (Int × List Int)) (g : List Int) (q : Nat) : List (Int × List (List Int)) := (atL (idsR R) (-g.headD 0) q).map fun (k : Nat) => ((k : Int), rowsR R g.tail)
def eachL (R : List (Int × List Int)) (gs : List (List Int)) : List (Int × List (List Int)) := gs.flatMap fun g => groupE R g (idsR R).length
theorem eachL_snoc (R : List (Int × List Int)) (gs : List (List Int)) (g : List Int) : eachL R (gs ++ [g]) = eachL R gs ++ groupE R g (idsR R).length := by unfold eachL; simp
theorem groupE_succ (R : List (Int × List Int)) (g : List Int) (q : Nat) : groupE R g (q + 1) = groupE R g q ++ (if (idsR R).getD q 0 = -g.headD 0 then [((q : Int), rowsR R g.tail)] else []) := by
  unfold groupE
  rw [atL_succ, List.map_append]
  congr 1
  split <;> rfl
theorem groupE_len (R : List (Int × List Int)) (g : List Int) (q : Nat) : (groupE R g q).length ≤ q := by unfold groupE; rw [List.length_map]; exact atL_len _ _ _
theorem eachL_len (R : List (Int × List Int)) (gs : List (List Int)) : (eachL R gs).length ≤ gs.length * R.length := by
  unfold eachL
  induction gs with
  | nil => simp
  | cons g gs ih =>
    rw [List.flatMap_cons, List.length_append, List.length_cons, Nat.succ_mul]
    have := groupE_len R g (idsR R).length
    have e := idsR_len R
    omega
theorem eachL_rows {R : List (Int × List Int)} {gs : List (List Int)} : ∀ e ∈ eachL R gs, ∃ g ∈ gs, e.2 = rowsR R g.tail := by
  intro e he
  unfold eachL groupE at he
  rw [List.mem_flatMap] at he
  obtain ⟨g, hg, he⟩ := he
  rw [List.mem_map] at he
  obtain ⟨k, _, rfl⟩ := he
  exact ⟨g, hg, rfl⟩
theorem eachL_is {R : List (Int × List Int)} (hr : Rises R) (gs : List (List Int)) (z : Int) : lastH (eachL R gs) z = eachF R gs z := by
  have key : ∀ n : Nat, n ≤ gs.length → lastH (eachL R (gs.take n)) z = eachF R (gs.take n) z := by
    intro n
    induction n with
    | zero => intro _; rfl
    | succ n ih =>
      intro hn
      have hg : gs[n]? = some gs[n] := List.getElem?_eq_getElem (by omega)
      rw [take_succ_of hg, eachL_snoc, eachF_snoc]
      generalize gs[n] = g
      have ih' := ih (by omega)
      have e := atL_rise (idsR R) (-g.headD 0) hr (idsR R).length (Nat.le_refl _)
      rw [List.take_of_length_le (Nat.le_refl _)] at e
      have e2 : groupE R g (idsR R).length = ((atL (idsR R) (-g.headD 0) (idsR R).length).map (fun (k : Nat) => (k : Int))).map fun k => (k, rowsR R g.tail) := by unfold groupE; rw [List.map_map]; rfl
      rw [e2, e]
      unfold each1
      by_cases h : hasV (idsR R) (-g.headD 0) = true
      · rw [if_pos h, if_pos h]
        show lastH (eachL R (gs.take n) ++ [(posV (idsR R) (-g.headD 0), rowsR R g.tail)]) z = _
        rw [lastH_snoc, ih']
        by_cases hz : z = posV (idsR R) (-g.headD 0)
        · rw [if_pos hz.symm, if_pos hz]
        · rw [if_neg (fun e => hz e.symm), if_neg hz]
      · rw [if_neg h, if_neg h]
        show lastH (eachL R (gs.take n) ++ []) z = _
        rw [List.append_nil, ih']
  have := key gs.length (Nat.le_refl _)
  rwa [List.take_of_length_le (Nat.le_refl _)] at this
theorem eachL_fun {R : List (Int × List Int)} (hr : Rises R) (gs : List (List Int)) : lastH (eachL R gs) = eachF R gs := funext (eachL_is hr gs)

/-! ### The slice that is built -/
theorem eltEz : Elt 87 89 (.agg #[.int .i64 0, .slice none 0 0]) 2 32 := ⟨Tryz.underlying87, by kernel_rfl, rfl, by decide, by decide⟩
theorem own_neZ {w : World} {base base2 size size2 n n2 : Nat} {e e2 : TypeId} {u v : Value} {xs us : List Value} (h : w.ownsRow base e size u n xs) (h2 : w.ownsRow base2 e2 size2 v n2 us) (hne : e ≠ e2) : u.ownBlock = none ∨ u.ownBlock ≠ v.ownBlock := by
  rcases h2.2 with ⟨rfl, _⟩ | ⟨g, cap, cur, rfl, _, hg, _⟩
  · rcases h.2 with ⟨rfl, _⟩ | ⟨g, cap, cur, rfl, _⟩
    · exact Or.inl rfl
    · exact Or.inr (by simp [Value.ownBlock])
  · exact Or.inr (ownsRow_ne_blk h hg hne)
def ReadEz (w0 w : World) (us : List (Value × Value)) (E : List (Int × List (List Int))) : Prop :=
  us.length = E.length ∧ ∀ (j : Nat) (e : Int × List (List Int)), E[j]? = some e → ∃ v g, us[j]? = some (.int .i64 e.1, v) ∧ OwnR w0 w g v e.2
def OwnE (w0 w : World) (base : Nat) (v : Value) (E : List (Int × List (List Int))) : Prop :=
  ∃ us : List (Value × Value), OwnV w base 89 2 v E.length (us.flatMap encN) ∧ ReadEz w0 w us E
section
variable {w0 w w' : World} {base : Nat} {v : Value} {E : List (Int × List (List Int))}
theorem OwnE.nil (w0 w : World) (base : Nat) : OwnE w0 w base (.slice none 0 0) [] := ⟨[], OwnV.nil _ _ _ _, rfl, fun _ _ h => by simp at h⟩
theorem OwnE.ext (h : OwnE w0 w base v E) (hx : Ext w w') : OwnE w0 w' base v E := by
  obtain ⟨us, h1, h2, h3⟩ := h
  exact ⟨us, h1.ext hx, h2, fun j e hj => let ⟨u, g, a, b⟩ := h3 j e hj; ⟨u, g, a, b.ext hx⟩⟩
theorem OwnE.blk (h : OwnE w0 w base v E) : ∀ k, v.ownBlock = some k → base ≤ k ∧ k < w.heap.size := let ⟨_, h1, _⟩ := h; h1.blk
theorem OwnE.form (h : OwnE w0 w base v E) : ∃ A m c, v = .slice A m c := let ⟨_, h1, _⟩ := h; OwnV.form h1
/-- Read. -/
theorem OwnE.rows (h : OwnE w0 w base v E) (hx : Ext w0 w) (hn : E.length ≤ 9223372036854775807) (hl : ∀ e ∈ E, e.2.length ≤ 9223372036854775807) : ∃ A n c, v = .slice A n c ∧ RowsE w A n E ∧ n ≤ c := by
  obtain ⟨us, h1, h2, h3⟩ := h
  obtain ⟨A, c, e, hs, hc⟩ := h1.sl hn
  refine ⟨A, E.length, c, e, ⟨rfl, hn, fun hp => ?_⟩, hc⟩
  obtain ⟨ad, e2, hcell⟩ := hs.2.2 hp
  refine ⟨ad, e2, fun j p hj => ?_⟩
  obtain ⟨u, g, g1, g2⟩ := h3 j p hj
  obtain ⟨A1, n1, c1, rfl, hr, _⟩ := g2.sl hx (hl p (List.mem_of_getElem? hj))
  refine ⟨A1, n1, c1, ?_, ?_, hr⟩
  · exact hcell _ _ (flat_get encN_len g1 (k := 0) (by decide))
  · rw [← add_posN]
    exact hcell _ _ (flat_get encN_len g1 (k := 1) (by decide))
end
/-- 'append(v, x)' at a step of a region that draws its order. -/
theorem step_appendE (w0 w : World) {ops : Array Oper} {o : Oper} {a : Act} {K : Act → World → Prop} {Q : Exit → Act → World → Prop} {X : Prop} (hgd : o.guard = none) (s x : Operand)
    (ho : o.op = .call { callee := .builtin .append, args := #[s, x], argTypes := #[87, 87] })
    (base : Nat) (v : Value) (E : List (Int × List (List Int))) (hs : a.eval s = v) (hown : OwnE w0 w base v E) (A : Option Addr) (c : Nat) (p : Int × List (List Int)) (u : Value) (g : Nat) (hu : u.oneCell' = true) (hx : a.eval x = .slice A 1 c) (hy : SlV w A 1 2 [.int .i64 p.1, u])
    (h5 : OwnR w0 w g u p.2) (hb : E.length + 1 ≤ 1000000000000) (hbase : base ≤ w.heap.size)
    (h : ∀ A' n' c' w', OwnE w0 w' base (.slice A' n' c') (E ++ [p]) → w.grownBy w' v.ownBlock → ((Value.slice A' n' c').ownBlock = v.ownBlock ∨ (Value.slice A' n' c').ownBlock = some w.heap.size) → K (a.put o.dst (.slice A' n' c')) w') :
    if Region.wanted o (yielded ops a.tmps) = true then Oper.wp Tryz.prog o a w K Q else X := by
  obtain ⟨us, h1, h2, h3⟩ := hown
  refine step_appendV eltEz w hgd s x ho base v E.length _ hs h1 A 1 c _ hx hy (by intro z hz; simp at hz; rcases hz with rfl | rfl; rfl; exact hu) hb hbase (fun A' n' c' w' k1 k2 k3 => h A' n' c' w' ?_ k2 k3)
  have hkeep : ∀ {z : Value} {g : Nat} {l : List (List Int)}, OwnR w0 w g z l → OwnR w0 w' g z l := fun hz => hz.kept k2 (let ⟨_, a, _, _⟩ := hz; own_neZ a h1 (by decide))
  refine ⟨us ++ [(.int .i64 p.1, u)], ?_, by simp [h2], fun j q hq => ?_⟩
  · rw [List.length_append, List.flatMap_append, show [((.int .i64 p.1 : Value), u)].flatMap encN = [.int .i64 p.1, u] from rfl]
    exact k1
  · by_cases hj : j < E.length
    · rw [List.getElem?_append_left hj] at hq
      obtain ⟨z, gz, e1, e2⟩ := h3 j q hq
      exact ⟨z, gz, by rw [List.getElem?_append_left (by rw [h2]; exact hj)]; exact e1, hkeep e2⟩
    · have hj0 : j - E.length = 0 := by have := (List.getElem?_eq_some_iff.1 hq).1; simp at this; omega
      rw [List.getElem?_append_right (by omega), hj0] at hq
      simp at hq
      subst hq
      exact ⟨u, g, by rw [List.getElem?_append_right (by rw [h2]; omega), h2, hj0]; rfl, hkeep h5⟩
/-- The slice of slices that Split hands back, read with each row's room. -/
theorem OwnRW.slW {w0 w : World} {base : Nat} {v : Value} {L : List (List Int)} (h : OwnRW w0 w base v L) (hx : Ext w0 w) (hn : L.length ≤ 9223372036854775807) : ∃ A n c, v = .slice A n c ∧ RowsW w A n L ∧ n ≤ c := by
  obtain ⟨vs, h0, hl, hr⟩ := h
  obtain ⟨A, c, e, hs, hc⟩ := h0.sl (by omega)
  refine ⟨A, vs.length, c, e, ⟨hl.symm, by omega, fun hp => ?_⟩, hc⟩
  obtain ⟨ad, e2, hcell⟩ := hs.2.2 hp
  refine ⟨ad, e2, fun j xs hj => ?_⟩
  obtain ⟨A1, n1, c1, h1, h2, h3⟩ := hr j xs hj
  exact ⟨A1, n1, c1, hcell j _ h1, h2.ext hx, h3⟩
end Go.Proofs.YtdgflniahoidmaaGreat

namespace Go.Proofs.YtdgflniahoidmaaGreat
open Go.RowKit

set_option maxHeartbeats 4000000 in
theorem r11RowsO_c (A : Option Addr) (n c : Nat) (R : List (Int × List Int)) (last : Int) (done : Bool) (A' : Option Addr) (n' c' : Nat) (l : List Int) (w0 w : World) (h : RowsN w0 A n R) (hW : Ext w0 w) (h' : IntSl w A' n' l) (hsm : n' ≤ 100000000) :
    Calls Tryz.prog 53 #[.agg #[.slice A n c, .int .i64 last, .bool done], .slice A' n' c'] w (RetRows11 w0 R l w) := by
  have hn := h'.len
  have HLN := Lib.hid h'.1
  have HX0 := Lib.hid ((Ext.refl w).alloc (Obj.cells #[.slice A n c, .int .i64 last, .bool done] 38))
  have HB0 := Lib.hid (Blk.new w 38 #[.slice A n c, .int .i64 last, .bool done])
  have HS := Lib.hid h
  have HS' := Lib.hid (h'.ext HX0.out)
  have HW := Lib.hid hW
  clear h h' hW
  go_enter Tryz.func53, Tryz.ntmps53
  go_wp2_with fail
  go_loopw [5, 6] (fun v i wr => ∃ k : Nat, k ≤ n' ∧ i = .int .i64 k ∧ OwnR w0 wr (w.heap.size + 1) v (rowsR R (l.take k)) ∧ Ext (w.alloc (Obj.cells #[.slice A n c, .int .i64 last, .bool done] 38)) wr) (fun _ i _ => n' - (intOf i).toNat)
  case atStart => exact ⟨0, Nat.zero_le _, rfl, OwnR.nil _ _ _, Ext.refl _⟩
  case round =>
    obtain ⟨k, hk, rfl, ho, hx⟩ := hrel
    have HO := Lib.hid ho
    have HX := Lib.hid hx
    have HSZ : Hid (w.heap.size + 1 ≤ wr.heap.size) := by have := hx.size_le; rw [World.size_alloc] at this; exact this
    have HB := Lib.hid (HB0.out.ext hx)
    have b0 := HB.out.cell 0
    have b1 := HB.out.cell 1
    have b2 := HB.out.cell 2
    clear ho hx
    by_cases hlt : k < n'
    · obtain ⟨ad, x, rfl, hxk, hcx, hx1, hx2⟩ := (HS'.out.ext HX.out).at_ hlt
      have HT : Hid (rowsR R (l.take (k + 1)) = rowsR R (l.take k) ++ [(getR R x).getD []]) := by unfold Hid; rw [take_succ_of hxk.out, rowsR_snoc]
      have HLK : Hid ((rowsR R (l.take k)).length = k) := by unfold Hid; rw [rowsR_len, List.length_take, HLN.out]; omega
      clear hxk
      go_wp2_with fail
      go_region_law
        ((first
          | (go_simp; (with_reducible refine (r11FindO_c _ _ _ R last done x w0 _ HS.out (HW.out.trans (HX0.out.trans HX.out.drew))).mono ?_); rintro e w4 ⟨A4, m4, c4, rfl, hs4, _, hx4⟩; have HX4 := Lib.hid (HX.out.drew.trans hx4); have HO4 := Lib.hid (HO.out.ext ((Ext.drew (Ext.refl wr)).trans hx4)); have HZ4 : Hid (w.heap.size + 1 ≤ w4.heap.size) := (by have := HX4.out.size_le; rw [World.size_alloc] at this; exact this); have HS4 := Lib.hid hs4; clear hx4 hs4)))
      all_goals
        clear b0 b1 b2 hcx
        go_wp2_with (at_builtin; refine appendR1 w0 _ rfl _ _ rfl (w.heap.size + 1) _ (rowsR R (l.take k)) rfl (HO4.out.alloc _) _ _ A4 m4 c4 ((getR R x).getD []) rfl (cell_one _ _ _) HS4.out (by have := HLK.out; omega) (by have := HZ4.out; simp; omega) ?_; intro v' w2 ho2 hg2 _; have HO2 := Lib.hid ho2; have HX2 : Hid (Ext (w.alloc (Obj.cells #[.slice A n c, .int .i64 last, .bool done] 38)) w2) := Ext.grown (HX4.out.alloc _) hg2 (fun j hj => by have h1 := (HO4.out.blk j hj).1; rw [World.size_alloc]; exact h1); clear ho2 hg2)
        go_roundw
        case rel => exact ⟨k + 1, by omega, by go_num, by rw [HT.out]; exact HO2.out, HX2.out⟩
        case measure => simp [intOf]; omega
    · have HO2 : Hid (OwnR w0 wr (w.heap.size + 1) u5 (rowsR R l)) := by
        have e := HO.out
        rw [List.take_of_length_le (by rw [HLN.out]; omega)] at e
        exact e
      go_wp2_with fail
      go_ret
      exact ⟨_, rfl, HO2.out.less (by omega), HX0.out.trans HX.out⟩
end Go.Proofs.YtdgflniahoidmaaGreat
