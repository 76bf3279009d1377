/- Layer 9 (rat): Show. -/
import Derived.Test.YtdgflniahoidmaaGreatRat2
import Derived.Test.YtdgflniahoidmaaGreatRegInv
set_option maxRecDepth 100000
namespace Go.Proofs.YtdgflniahoidmaaGreat
open Go.RowKit

theorem chainV_len : ∀ (hs : List (List Int)) (l : List Int) (i : Nat), (chainV l hs i).1.length ≤ l.length + hs.length
  | [], l, i => by simp [chainV]
  | h :: hs, l, i => by
    rcases stepV_cases l h with e | e | e
    · rw [chainV_hit e]; simp
    rotate_left
    · rw [chainV_err e]; simp
    · rw [chainV_on e]
      have := chainV_len hs (l ++ [unitU l h]) (i + 1)
      simp at this ⊢; omega

def refB (F : Int → Option (List (List Int))) (l c : List Int) (p : Int) (i : Int) : Bool := match F i with | none => false | some hs => decide (refuteV l c p hs = 0)

set_option maxHeartbeats 1000000 in
theorem refuted_c (i : Nat) (p1 p2 p3 p4 : Addr) (v1 : Value) (F : Int → Option (List (List Int))) (A2 : Option Addr) (n2 c2 : Nat) (l : List Int) (A3 : Option Addr) (n3 c3 : Nat) (L : List (List Int)) (A4 : Option Addr) (n4 c4 : Nat) (p : Int) (xs : List Int) (cl : List Int) (w : World)
    (h1 : w.cell? p1 = some v1) (hm : MapR w v1 F) (h2 : w.cell? p2 = some (.slice A2 n2 c2)) (hl : IntSl w A2 n2 l) (h3 : w.cell? p3 = some (.slice A3 n3 c3)) (hL : RowsSl w A3 n3 L) (h4 : w.cell? p4 = some (.slice A4 n4 c4)) (hc : IntSl w A4 n4 (p :: xs))
    (hi : i < n3) (hcl : L[i]? = some cl) (hsm2 : n2 ≤ 10000000) (hsmc : cl.length ≤ 10000000) :
    Calls Tryz.prog 92 #[.int .i64 i, .pointer (some p1), .pointer (some p2), .pointer (some p3), .pointer (some p4)] w fun e w' => e = .returned (.bool (refB F l cl p i)) ∧ Ext w w' := by
  have hn3 := hL.len
  obtain ⟨A, n, c, hlook, hn, hr⟩ := hm.at (i : Int) (by omega)
  have hlk := hlook w (Ext.refl _)
  have hR := Lib.hid hr
  cases hF : F i with
  | none =>
    have HR : Hid (refB F l cl p i = false) := by unfold Hid refB; rw [hF]
    rw [hF] at hlk
    clear hF hr hlook
    have hlk2 : (Instr.lookup 101 v1 (.int .i64 i) true).run Tryz.prog w = .ok (.tuple #[.slice A n c, .bool false]) w := hlk
    clear hlk
    go_enter Tryz.func92, Tryz.ntmps92
    go_wp2_with fail
    go_quiet (fail)
    go_wp2
    go_ret
    exact ⟨ret_bool HR.out.symm, (Ext.refl _).drewN _⟩
  | some hs =>
    have HR : Hid (refB F l cl p i = decide (refuteV l cl p hs = 0)) := by unfold Hid refB; rw [hF]
    rw [hF] at hlk hR
    have HRS : Hid (RowsSl w A n hs) := hR
    clear hF hr hlook hR
    have hlk2 : (Instr.lookup 101 v1 (.int .i64 i) true).run Tryz.prog w = .ok (.tuple #[.slice A n c, .bool true]) w := hlk
    clear hlk
    have b1 : (i : Int) < (n3 : Int) := by omega
    obtain ⟨ad4, x4, rfl, hx4, hc4, hx41, hx42⟩ := hc.at_ (show 0 < n4 by have := hc.1; simp at this; omega)
    have hx4' : x4 = p := by have := hx4.out; simpa using this.symm
    subst hx4'
    have hn4 : 0 < n4 := by have := hc.1; simp at this; omega
    have b4 : (0 : Int) < (n4 : Int) := by omega
    obtain ⟨ad3, ys, A1, m1, c1, rfl, hy, hcy, hrow⟩ := hL.at_ hi
    have hyc : ys = cl := by have := hy.out; rw [hcl] at this; cases this; rfl
    subst hyc
    have hm1 : m1 ≤ 10000000 := by have := hrow.1; omega
    have HROW := Lib.hid hrow
    have HLI := Lib.hid hl
    clear hrow hl hcl hy hx4 hL hc hm
    go_enter Tryz.func92, Tryz.ntmps92
    go_wp2_with fail
    refine still_tailV 11 (by kernel_rfl) (by kernel_rfl) fun W hW => ?_
    have hXW : Ext w W := by rw [hW]; exact (Ext.refl _).drew
    have k1 := hXW.cell h1
    have k2 := hXW.cell h2
    have k3 := hXW.cell h3
    have k4 := hXW.cell h4
    have k5 := hXW.cell hc4
    have k6 := hXW.cell hcy
    have k7 : W.cell? ad4 = some (.int .i64 x4) := by have e0 : ad4.add 0 = ad4 := by (unfold Addr.add; split <;> simp_all)
                                                      rw [e0] at k5; exact k5
    have HXW := Lib.hid hXW
    clear hW hXW h1 h2 h3 h4 hc4 hcy
    simp only [List.take_succ_cons, List.take_zero, List.drop_succ_cons, List.drop_zero]
    repeat still_step
    refine wpStill_nil ?_
    go_wp2_with fail
    refine (refute_c _ _ _ l _ _ _ ys _ _ _ _ hs _ (HLI.out.ext HXW.out) (HROW.out.ext HXW.out) (HRS.out.ext HXW.out) hsm2 hm1 hn).mono ?_
    rintro e w2 ⟨rfl, hx2⟩
    have HX2 := Lib.hid hx2
    clear hx2
    go_wp2_with fail
    go_ret
    exact ⟨ret_bool (by rw [HR.out]; by_cases e : refuteV l ys x4 hs = 0 <;> simp [e]), HXW.out.trans HX2.out⟩

/-! ### Show -/
theorem findR_hit {α : Type} {l : List α} {q : α → Bool} {k : Nat} {x : α} (h : (l.take k).find? q = none) (hx : l[k]? = some x) (hq : q x = true) : l.find? q = some x := by
  rw [← List.take_append_drop k l, List.find?_append, h, drop_cons hx, List.find?_cons_of_pos hq]; rfl
theorem findR_snoc {α : Type} {l : List α} {q : α → Bool} {k : Nat} {x : α} (h : (l.take k).find? q = none) (hx : l[k]? = some x) (hq : q x = false) : (l.take (k + 1)).find? q = none := by
  rw [take_succ_of hx, List.find?_append, h]; simp [hq]
/-- What Show answers. -/
def ratShow (L : List (List Int)) (c : List Int) (ahead : List (List Int)) (F : Int → Option (List (List Int))) : Int × Int :=
  if startE c ≠ 0 then (-1, startE c) else if c = [] then (-1, 11) else
  let r := chainV (startV c) ahead 0
  if r.2.2 ≠ 23 then (-1, r.2.2) else
  match (candV (c.headD 0) L).find? (fun i => !refB F r.1 (L.getD i.toNat []) (c.headD 0) i) with
  | some i => (i, 24)
  | none => ((candV (c.headD 0) L).length, 0)
def RetShow (r : Int × Int) (w : World) (e : Ending) (w' : World) : Prop := e = .returned (.tuple #[.int .i64 r.1, .int .i64 r.2]) ∧ Ext w w'

set_option maxHeartbeats 4000000 in
theorem ratShow_c (A : Option Addr) (n c : Nat) (L : List (List Int)) (A1 : Option Addr) (n1 c1 : Nat) (cl : List Int) (A2 : Option Addr) (n2 c2 : Nat) (ah : List (List Int)) (mb : Option Nat) (F : Int → Option (List (List Int))) (w : World)
    (h : RowsSl w A n L) (h1 : IntSl w A1 n1 cl) (h2 : RowsSl w A2 n2 ah) (hm : MapR w (.map mb) F) (hsm : n ≤ 1000000) (hsm1 : n1 ≤ 1000000) (hsm2 : n2 ≤ 1000000) (hrows : ∀ d ∈ L, d.length ≤ 10000000) :
    Calls Tryz.prog 73 #[.slice A n c, .slice A1 n1 c1, .slice A2 n2 c2, .map mb] w (RetShow (ratShow L cl ah F) w) := by
  have HLn := Lib.hid h.1
  have HL1 := Lib.hid h1.1
  have HL2 := Lib.hid h2.1
  have hB0 := Blk.new w 22 #[.slice A n c]
  have hB1 := Blk.new (w.alloc (Obj.cells #[.slice A n c] 22)) 42 #[.slice A1 n1 c1]
  have hB2 := Blk.new ((w.alloc (Obj.cells #[.slice A n c] 22)).alloc (Obj.cells #[.slice A1 n1 c1] 42)) 101 #[.map mb]
  simp only [World.size_alloc] at hB1 hB2
  have HB0 := Lib.hid ((hB0.alloc (Obj.cells #[.slice A1 n1 c1] 42)).alloc (Obj.cells #[.map mb] 101))
  have HB1 := Lib.hid (hB1.alloc (Obj.cells #[.map mb] 101))
  have HB2 := Lib.hid hB2
  have HXA : Hid (Ext w (((w.alloc (Obj.cells #[.slice A n c] 22)).alloc (Obj.cells #[.slice A1 n1 c1] 42)).alloc (Obj.cells #[.map mb] 101))) := (((Ext.refl _).alloc _).alloc _).alloc _
  clear hB0 hB1 hB2
  go_enter Tryz.func73, Tryz.ntmps73
  go_wp2_with fail
  refine (rupStart_c _ _ _ cl _ (h1.ext HXA.out) (by omega)).mono ?_
  rintro e w1 ⟨v, rfl, hv, hx1⟩
  have hsl := startV_len cl
  have hsb := startV_bd cl
  obtain ⟨A5, n5, c5, rfl, hs5⟩ := hv.sl (by have := HL1.out; omega) (fun y hy => by have := hsb y hy; omega)
  have hn5 : n5 ≤ 1000000 := by have := hs5.1; have := HL1.out; omega
  have HW1 : Hid (Ext w (w1.alloc (Obj.cells #[.slice A5 n5 c5] 42))) := (HXA.out.trans hx1).alloc _
  have HC0 := Lib.hid ((HB0.out.ext hx1).alloc (Obj.cells #[.slice A5 n5 c5] 42))
  have HC1 := Lib.hid ((HB1.out.ext hx1).alloc (Obj.cells #[.slice A5 n5 c5] 42))
  have HC2 := Lib.hid ((HB2.out.ext hx1).alloc (Obj.cells #[.slice A5 n5 c5] 42))
  have HC3 := Lib.hid (Blk.new w1 42 #[.slice A5 n5 c5])
  have HS5 := Lib.hid (hs5.ext ((Ext.refl w1).alloc (Obj.cells #[.slice A5 n5 c5] 42)))
  have hlt0 := (HB0.out.ext hx1).lt
  have hlt1 := (HB1.out.ext hx1).lt
  have hlt2 := (HB2.out.ext hx1).lt
  have HLTS : Hid (w.heap.size < w1.heap.size ∧ w.heap.size + 1 < w1.heap.size ∧ w.heap.size + 1 + 1 < w1.heap.size) := ⟨hlt0, hlt1, hlt2⟩
  clear hv hx1 hsl hsb hs5 hlt0 hlt1 hlt2
  by_cases he : startE cl = 0
  · have HE := Lib.hid he
    rw [he]
    clear he
    have y0 := HC1.out.cell 0
    by_cases hc0 : n1 = 0
    · subst hc0
      have HR : Hid (ratShow L cl ah F = (-1, 11)) := by
        have : cl = [] := List.eq_nil_of_length_eq_zero HL1.out
        subst this
        rfl
      go_wp2_with fail
      go_ret2
      exact ⟨by rw [HR.out]; rfl, HW1.out⟩
    · have hc1 : 0 < n1 := by omega
      have hc1i : ((n1 : Int) == 0) = false := by rw [beq_eq_false_iff_ne]; omega
      clear hc0
      obtain ⟨p, xs, hcl⟩ : ∃ p xs, cl = p :: xs := by
        cases cl with
        | nil => have := HL1.out; simp at this; omega
        | cons p xs => exact ⟨p, xs, rfl⟩
      have hRR : ratShow L cl ah F = if (chainV (startV cl) ah 0).2.2 ≠ 23 then (-1, (chainV (startV cl) ah 0).2.2) else
          match (candV p L).find? (fun i => !refB F (chainV (startV cl) ah 0).1 (L.getD i.toNat []) p i) with | some i => (i, 24) | none => ((candV p L).length, 0) := by
        unfold ratShow
        rw [if_neg (by rw [HE.out]; decide), if_neg (by rw [hcl]; simp), hcl]
        rfl
      have HRR := Lib.hid hRR
      clear hRR
      have y1 := HC3.out.cell 0
      go_wp2_with fail
      refine (rupChain_c _ _ _ (startV cl) _ _ _ ah _ HS5.out (h2.ext HW1.out) (by omega) (by omega)).mono ?_
      rintro e w2 ⟨A6, n6, c6, rfl, hs6, hx2⟩
      have hcn := chainV_len ah (startV cl) 0
      have hn6 : n6 ≤ 10000000 := by have e1 := hs6.1; have e2 := HL2.out; have e3 := HS5.out.1; omega
      obtain ⟨r, hr⟩ : ∃ r, chainV (startV cl) ah 0 = r := ⟨_, rfl⟩
      rw [hr] at hs6
      rw [hr]
      have HRE := Lib.hid hr
      have hb3 := HC3.out.ext hx2
      have z0 := hb3.cell 0
      have zf := hb3.frozen 0
      have HX2 := Lib.hid hx2
      have HS6 := Lib.hid hs6
      have HD3 := Lib.hid hb3
      clear hx2 hs6 hr hcn y0 y1 hb3
      by_cases h23 : r.2.2 = 23
      · have H23 := Lib.hid h23
        rw [h23]
        clear h23
        go_wp2_with fail
        have hw3x : Ext w (w2.setCell ⟨w1.heap.size, 0, none⟩ (.slice A6 n6 c6)) := (HW1.out.trans HX2.out).setCell (Nat.le_of_lt HLTS.out.1) _
        have he0 := (HC0.out.ext HX2.out).far (p := ⟨w1.heap.size, 0, none⟩) (Nat.ne_of_lt HLTS.out.1) (.slice A6 n6 c6)
        have he1 := (HC1.out.ext HX2.out).far (p := ⟨w1.heap.size, 0, none⟩) (Nat.ne_of_lt HLTS.out.2.1) (.slice A6 n6 c6)
        have he2 := (HC2.out.ext HX2.out).far (p := ⟨w1.heap.size, 0, none⟩) (Nat.ne_of_lt HLTS.out.2.2) (.slice A6 n6 c6)
        have he3 : Blk (w2.setCell ⟨w1.heap.size, 0, none⟩ (.slice A6 n6 c6)) w1.heap.size 42 #[.slice A6 n6 c6] := HD3.out.set_ 0 _
        have hs63 := IntSl.far HS6.out (p := ⟨w1.heap.size, 0, none⟩) (.slice A6 n6 c6) (fun x => by rw [z0]; simp)
        generalize w2.setCell ⟨w1.heap.size, 0, none⟩ (.slice A6 n6 c6) = w3 at hw3x he0 he1 he2 he3 hs63 ⊢
        clear z0 zf
        refine still_tailV 4 (by kernel_rfl) (by kernel_rfl) fun W hW => ?_
        have hXW : Ext w3 W := by rw [hW]; exact (Ext.refl _).drew
        obtain ⟨ad1, p', rfl, hp', hcp, hp1, hp2⟩ := (h1.ext (hw3x.trans hXW)).at_ hc1
        have hpp : p' = p := by have := hp'.out; rw [hcl] at this; simpa using this.symm
        subst hpp
        have b1 : (0 : Int) < (n1 : Int) := by omega
        have k7 : W.cell? ad1 = some (.int .i64 p') := by
          have e0 : ad1.add 0 = ad1 := by unfold Addr.add; split <;> simp_all
          rw [e0] at hcp; exact hcp
        have HF0 := Lib.hid (he0.ext hXW)
        have HF1 := Lib.hid (he1.ext hXW)
        have HF2 := Lib.hid (he2.ext hXW)
        have HF3 := Lib.hid (he3.ext hXW)
        have HS63 := Lib.hid (hs63.ext hXW)
        have HXW := Lib.hid (hw3x.trans hXW)
        have k0 := HF0.out.cell 0
        have k1 := HF1.out.cell 0
        have HCL := Lib.hid hcl
        clear hW hXW he0 he1 he2 he3 hs63 hw3x hp' hcl
        simp only [List.take_succ_cons, List.take_zero, List.drop_succ_cons, List.drop_zero]
        repeat still_step
        refine wpStill_nil ?_
        go_wp2_with fail
        refine (cands_c _ _ _ L _ _ (h.ext HXW.out) (by omega)).mono ?_
        rintro e w4 ⟨v4, rfl, ho4, hx4⟩
        have hcm : ∀ x ∈ candV p' L, -9223372036854775808 ≤ x ∧ x ≤ 9223372036854775807 := fun x hx => by
          obtain ⟨j, e, hj, _⟩ := candL_mem hx
          have := HLn.out
          omega
        obtain ⟨A7, n7, c7, rfl, hs7⟩ := ho4.sl (by have e1 := candL_len p' L L.length; have e2 := HLn.out; unfold candV; omega) hcm
        have hn7 := hs7.2.1
        have HN7 := Lib.hid hs7.1
        have HS7 := Lib.hid hs7
        have HX4 := Lib.hid hx4
        clear ho4 hx4 hcm hs7 k0 k1 k7 hcp
        go_wp2_with fail
        go_loopw [8, 9, 46] (fun _ _ i wr => ∃ k : Nat, k ≤ n7 ∧ i = .int .i64 k ∧ ((candV p' L).take k).find? (fun i => !refB F r.1 (L.getD i.toNat []) p' i) = none ∧ Ext w4 wr) (fun _ _ i _ => n7 - (intOf i).toNat)
        case atStart => exact ⟨0, Nat.zero_le _, rfl, rfl, Ext.refl _⟩
        case round =>
          obtain ⟨k, hk, rfl, hno, hxr⟩ := hrel
          have HNO := Lib.hid hno
          have HXR := Lib.hid hxr
          clear hno hxr
          by_cases hlt : k < n7
          · obtain ⟨ad, ci, rfl, hci, hcc, _, _⟩ := (HS7.out.ext HXR.out).at_ hlt
            obtain ⟨j, hj, hjl, _⟩ := candL_mem (List.mem_of_getElem? hci.out)
            subst hj
            have hjn : j < n := by have := HLn.out; omega
            obtain ⟨cj, hcj⟩ : ∃ cj, L[j]? = some cj := ⟨_, List.getElem?_eq_getElem hjl⟩
            have HGD : Hid (L.getD ((j : Int)).toNat [] = cj) := by unfold Hid; rw [Int.toNat_natCast, List.getD_eq_getElem?_getD, hcj]; rfl
            have hcjl := hrows cj (List.mem_of_getElem? hcj)
            have HCJ := Lib.hid hcj
            clear hcj hjl
            cases hB : refB F r.1 cj p' j with
            | false =>
              have HBB := Lib.hid hB
              have HR : Hid (ratShow L cl ah F = ((j : Int), 24)) := by
                unfold Hid
                rw [HRR.out, HRE.out, if_neg (by rw [H23.out]; decide), findR_hit HNO.out hci.out (by rw [HGD.out, HBB.out]; rfl)]
              clear hB
              go_wp2_with fail
              refine (refuted_c j _ _ _ _ (.map mb) F _ _ _ r.1 _ _ _ L _ _ _ p' xs cj wr ((HF2.out.ext (HX4.out.trans HXR.out)).cell 0) (hm.ext (HXW.out.trans (HX4.out.trans HXR.out))) ((HF3.out.ext (HX4.out.trans HXR.out)).cell 0) (HS63.out.ext (HX4.out.trans HXR.out)) ((HF0.out.ext (HX4.out.trans HXR.out)).cell 0) (h.ext (HXW.out.trans (HX4.out.trans HXR.out))) ((HF1.out.ext (HX4.out.trans HXR.out)).cell 0) (by have := h1.ext (HXW.out.trans (HX4.out.trans HXR.out)); rw [HCL.out] at this; exact this) hjn HCJ.out hn6 hcjl).mono ?_
              rintro e w5 ⟨rfl, hx5⟩
              rw [HBB.out]
              have HX5 := Lib.hid hx5
              clear hx5
              go_wp2_with fail
              go_ret2
              exact ⟨by rw [HR.out]; rfl, HXW.out.trans (HX4.out.trans (HXR.out.trans HX5.out))⟩
            | true =>
              have HBB := Lib.hid hB
              clear hB
              go_wp2_with fail
              refine (refuted_c j _ _ _ _ (.map mb) F _ _ _ r.1 _ _ _ L _ _ _ p' xs cj wr ((HF2.out.ext (HX4.out.trans HXR.out)).cell 0) (hm.ext (HXW.out.trans (HX4.out.trans HXR.out))) ((HF3.out.ext (HX4.out.trans HXR.out)).cell 0) (HS63.out.ext (HX4.out.trans HXR.out)) ((HF0.out.ext (HX4.out.trans HXR.out)).cell 0) (h.ext (HXW.out.trans (HX4.out.trans HXR.out))) ((HF1.out.ext (HX4.out.trans HXR.out)).cell 0) (by have := h1.ext (HXW.out.trans (HX4.out.trans HXR.out)); rw [HCL.out] at this; exact this) hjn HCJ.out hn6 hcjl).mono ?_
              rintro e w5 ⟨rfl, hx5⟩
              rw [HBB.out]
              have HX5 := Lib.hid hx5
              clear hx5
              go_wp2_with fail
              go_roundw
              case rel => exact ⟨k + 1, by omega, by go_num, findR_snoc HNO.out hci.out (by rw [HGD.out, HBB.out]; rfl), HXR.out.trans HX5.out⟩
              case measure => simp [intOf]; omega
          · have HR : Hid (ratShow L cl ah F = ((n7 : Int), 0)) := by
              unfold Hid
              have e1 := HNO.out
              rw [List.take_of_length_le (by have := HN7.out; omega)] at e1
              rw [HRR.out, HRE.out, if_neg (by rw [H23.out]; decide), e1, HN7.out]
            go_wp2_with fail
            go_ret2
            exact ⟨by rw [HR.out]; rfl, HXW.out.trans (HX4.out.trans HXR.out)⟩
      · have h23' : (r.2.2 != 23) = true := by simpa using h23
        have HR : Hid (ratShow L cl ah F = (-1, r.2.2)) := by unfold Hid; rw [HRR.out, HRE.out, if_pos h23]
        clear h23
        go_wp2_with fail
        go_ret2
        exact ⟨by rw [HR.out]; rfl, (HW1.out.trans HX2.out).setCell (Nat.le_of_lt HLTS.out.1) _⟩
  · have hb : (startE cl != 0) = true := by simpa using he
    have HR : Hid (ratShow L cl ah F = (-1, startE cl)) := by unfold Hid ratShow; rw [if_pos he]
    clear he
    go_wp2_with fail
    go_ret2
    exact ⟨by rw [HR.out]; rfl, HW1.out⟩
end Go.Proofs.YtdgflniahoidmaaGreat
