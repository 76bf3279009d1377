/- Layer 12 (arena): an arena has what the document's has. -/
import Derived.Test.YtbkimfefbdfkbaaAs8
import Derived.Test.YtbkimfefbdfkbaaRegF
set_option maxRecDepth 100000
namespace Go.Proofs.Ytbkimfefbdfkbaa
open Go.RowKit

theorem any_dstK {l : List Oper} {t : Nat} (h : (l.any fun o => o.dst == some t) = true) : ∃ o ∈ l, o.dst = some t := any_dst h
theorem sameV_refl12 (xs : List Int) : sameV xs xs = true := by simp [sameV]
def baseS1 (p H : Nat) : List (Nat × Spec) := [(0, .val (.pointer (some ⟨p, 0, none⟩))), (3, .val (.pointer (some ⟨H, 0, none⟩)))]
def regS1 (p H n0 c0 : Nat) (A0 : Option Addr) (sz : Int) (xs : List Int) : List (Nat × Spec) := [(7, .val (.pointer (some ⟨p, 0, none⟩))), (8, .val (.int .i64 sz)), (9, .val (.pointer (some ⟨H, 1, none⟩))), (10, .val (.int .i64 sz)), (11, .val (.bool false)), (12, .val (.bool false)), (13, .val (.pointer (some ⟨p, 0, none⟩))), (14, .ints (xs)), (15, .val (.agg #[.slice A0 n0 c0, .int .i64 sz])), (16, .ints (xs)), (17, .val (.bool true)), (18, .val (.bool false)), (19, .val (.bool false))]
def baseS2 (p B : Nat) : List (Nat × Spec) := [(0, .val (.pointer (some ⟨p, 0, none⟩))), (6, .val (.pointer (some ⟨B, 0, none⟩)))]
def regS2 (p B kn kc : Nat) (kA : Option Addr) (rp rid : Int) (rl : Bool) (xs : List Int) : List (Nat × Spec) := [(32, .val (.pointer (some ⟨B, 4, none⟩))), (33, .val (.bool true)), (34, .val (.bool true)), (35, .val (.agg #[.int .i64 rp, .int .i64 rid, .slice kA kn kc, .bool rl, .bool true])), (36, .val (.pointer (some ⟨p, 0, none⟩))), (37, .val (.pointer (some ⟨B, 0, none⟩))), (38, .val (.int .i64 rp)), (39, .val (.int .i64 rid)), (40, .val (.pointer (some ⟨p, 0, none⟩))), (41, .val (.pointer (some ⟨B, 0, none⟩))), (42, .val (.int .i64 rp)), (43, .ints (xs)), (44, .val (.pointer (some ⟨p, 0, none⟩))), (45, .val (.pointer (some ⟨B, 0, none⟩))), (46, .val (.int .i64 rp)), (47, .val (.bool rl)), (48, .val (.bool true)), (49, .val (.bool false)), (50, .val (.bool false))]
def baseS3 (p B : Nat) : List (Nat × Spec) := [(0, .val (.pointer (some ⟨p, 0, none⟩))), (6, .val (.pointer (some ⟨B, 0, none⟩)))]
def regS3 (B : Nat) : List (Nat × Spec) := [(32, .val (.pointer (some ⟨B, 4, none⟩))), (33, .val (.bool false)), (34, .val (.bool false)), (50, .val (.bool false))]
set_option maxRecDepth 100000 in
set_option maxHeartbeats 8000000 in
theorem same12_c (F : Nat → Prop) (w : World) (base p mb : Nat) (lv : Value) (K : Nat) (S : ASt) (v : Value) (h : ArMem w base p mb lv K S) (hr : RefR F w 0 v S.rows) (hsm : S.rows.length ≤ 1000000) :
    Calls Try.prog 28 #[.pointer (some ⟨p, 0, none⟩), .agg #[v, .int .i64 S.size]] w fun e w' => e = .returned (.bool true) ∧ Ext w w' := by
  obtain ⟨A0, c0, rfl, hc⟩ := RefR.len hr
  have hI := h.inv
  have hX := (Ext.refl w).alloc (Obj.cells #[.slice A0 S.rows.length c0, .int .i64 S.size] 58)
  have HAL : Hid ((allA S.rows).length ≤ 9223372036854775807) := Lib.hid (by have := allA_len S.rows; omega)
  have HAB := Lib.hid (allA_bd hI h.len)
  have HPB : Hid (∀ r ∈ S.rows, -9223372036854775808 ≤ r.pos ∧ r.pos ≤ 9223372036854775807) := Lib.hid fun r hr => by
    obtain ⟨i, hi⟩ := List.mem_iff_getElem?.1 hr
    have h1 := hI.pos i r hi
    have h2 := flat_le_app (S.rows.take i) (S.rows.drop i)
    rw [List.take_append_drop] at h2
    have := h.len
    omega
  have HRB : Hid (∀ (k : Nat) (r : ARow), S.rows[k]? = some r → r.lits.length ≤ 1000 ∧ ∀ x ∈ r.lits, -9223372036854775808 ≤ x ∧ x ≤ 9223372036854775807) := Lib.hid fun k r hr => by
    obtain ⟨_, h1, h2⟩ := hI.ok r (List.mem_of_getElem? hr)
    exact ⟨h1, fun x hx => by have := h2 x hx; omega⟩
  have HFD : Hid (∀ (k : Nat) (r : ARow), S.rows[k]? = some r → r.live = true → S.rows.find? (atP r.pos) = some r) := Lib.hid fun k r hr hl => (find_iff hI).2 ⟨k, hr, rfl, hl⟩
  have HB := Lib.hid (Blk.new w 58 #[.slice A0 S.rows.length c0, .int .i64 S.size])
  have HM := Lib.hid (h.ext hX)
  have HR := Lib.hid (hr.ext hX)
  have HX := Lib.hid hX
  have HC0 := Lib.hid (HB.out.cell 0)
  have HC1 := Lib.hid (HB.out.cell 1)
  clear h hr hI hX
  go_enter Try.func28, Try.ntmps28
  go_wp2_with fail
  generalize hw : w.alloc (Obj.cells #[.slice A0 S.rows.length c0, .int .i64 S.size] 58) = w0 at HB HM HR HX HC0 HC1 ⊢
  clear hw
  go_cut [19] (fun s wx => s = .bool false ∧ Ext w0 wx)
  case first =>
    refine wp_region_invF (SpecS (baseS1 p w.heap.size) (regS1 p w.heap.size S.rows.length c0 A0 S.size (allA S.rows))) (by kernel_rfl) (by kernel_rfl) SpecS.ext (SpecS.start (by kernel_rfl) ?_) ?_ ?_
    · exact lookup_all (by simp [baseS1, Spec.holds])
    · simp only [List.forall_mem_cons]
      repeat' apply And.intro
      · refine rop_on [0] (by kernel_rfl) none (by kernel_rfl) (fun k b hk => by cases hk) (fun K a W hK hx hl => ?_)
        have e0 : a.tmps.getD 0 undef = .pointer (some ⟨p, 0, none⟩) := (hl 0 (by decide)).1 _ rfl
        exact rop_val (v := .pointer (some ⟨p, 0, none⟩)) (by go_simp) (hK _ _ (fun t ht => by cases ht; exact spec_new rfl rfl rfl) (Ext.refl _))
      · refine rop_on [7] (by kernel_rfl) none (by kernel_rfl) (fun k b hk => by cases hk) (fun K a W hK hx hl => ?_)
        have e7 : a.tmps.getD 7 undef = .pointer (some ⟨p, 0, none⟩) := (hl 7 (by decide)).2 _ rfl
        unfold Oper.wp
        rw [show (execOp a.eval _).run Try.prog W = .ok (.enter 37 #[.pointer (some ⟨p, 0, none⟩)]) W from by go_simp, Oper.upon_enter]
        refine (arSize_c _ base p mb lv _ S (HM.out.ext hx)).mono ?_
        rintro e w1 ⟨rfl, rfl⟩
        exact hK _ _ (fun t ht => by cases ht; exact spec_new rfl rfl rfl) (Ext.refl _)
      · refine rop_on [3] (by kernel_rfl) none (by kernel_rfl) (fun k b hk => by cases hk) (fun K a W hK hx hl => ?_)
        have e3 : a.tmps.getD 3 undef = .pointer (some ⟨w.heap.size, 0, none⟩) := (hl 3 (by decide)).1 _ rfl
        exact rop_val (v := .pointer (some ⟨w.heap.size, 1, none⟩)) (by go_simp) (hK _ _ (fun t ht => by cases ht; exact spec_new rfl rfl rfl) (Ext.refl _))
      · refine rop_on [9] (by kernel_rfl) none (by kernel_rfl) (fun k b hk => by cases hk) (fun K a W hK hx hl => ?_)
        have e9 : a.tmps.getD 9 undef = .pointer (some ⟨w.heap.size, 1, none⟩) := (hl 9 (by decide)).2 _ rfl
        have z0 := hx.cell HC1.out
        exact rop_val (v := .int .i64 S.size) (by go_simp) (hK _ _ (fun t ht => by cases ht; exact spec_new rfl rfl rfl) (Ext.refl _))
      · refine rop_on [8, 10] (by kernel_rfl) none (by kernel_rfl) (fun k b hk => by cases hk) (fun K a W hK hx hl => ?_)
        have e8 : a.tmps.getD 8 undef = .int .i64 S.size := (hl 8 (by decide)).2 _ rfl
        have e10 : a.tmps.getD 10 undef = .int .i64 S.size := (hl 10 (by decide)).2 _ rfl
        exact rop_val (v := .bool false) (by go_simp) (hK _ _ (fun t ht => by cases ht; exact spec_new rfl rfl rfl) (Ext.refl _))
      · refine rop_on [11] (by kernel_rfl) none (by kernel_rfl) (fun k b hk => by cases hk) (fun K a W hK hx hl => ?_)
        have e11 : a.tmps.getD 11 undef = .bool false := (hl 11 (by decide)).2 _ rfl
        exact rop_val (v := .bool false) (by go_simp) (hK _ _ (fun t ht => by cases ht; exact spec_new rfl rfl rfl) (Ext.refl _))
      · refine rop_on [0, 12] (by kernel_rfl) (some (12, false)) (by kernel_rfl) (fun k b hk v w hS => by cases hk; exact hS.2 _ rfl) (fun K a W hK hx hl => ?_)
        have e0 : a.tmps.getD 0 undef = .pointer (some ⟨p, 0, none⟩) := (hl 0 (by decide)).1 _ rfl
        exact rop_val (v := .pointer (some ⟨p, 0, none⟩)) (by go_simp) (hK _ _ (fun t ht => by cases ht; exact spec_new rfl rfl rfl) (Ext.refl _))
      · refine rop_on [12, 13] (by kernel_rfl) (some (12, false)) (by kernel_rfl) (fun k b hk v w hS => by cases hk; exact hS.2 _ rfl) (fun K a W hK hx hl => ?_)
        have e13 : a.tmps.getD 13 undef = .pointer (some ⟨p, 0, none⟩) := (hl 13 (by decide)).2 _ rfl
        unfold Oper.wp
        rw [show (execOp a.eval _).run Try.prog W = .ok (.enter 35 #[.pointer (some ⟨p, 0, none⟩)]) W from by go_simp, Oper.upon_enter]
        refine (arAll_c _ base p mb lv _ S (HM.out.ext hx)).mono ?_
        rintro e w1 ⟨v1, rfl, ho1, hx1⟩
        obtain ⟨A1, n1, c1, rfl⟩ := ho1.form
        exact hK _ _ (fun t ht => by cases ht; exact spec_new rfl rfl ⟨A1, n1, c1, rfl, ownI_sl ho1 HAL.out HAB.out⟩) hx1
      · refine rop_on [3, 12] (by kernel_rfl) (some (12, false)) (by kernel_rfl) (fun k b hk v w hS => by cases hk; exact hS.2 _ rfl) (fun K a W hK hx hl => ?_)
        have e3 : a.tmps.getD 3 undef = .pointer (some ⟨w.heap.size, 0, none⟩) := (hl 3 (by decide)).1 _ rfl
        have z0 := hx.cell HC0.out
        have z1 := hx.cell HC1.out
        exact rop_val (v := .agg #[.slice A0 S.rows.length c0, .int .i64 S.size]) (by go_simp) (hK _ _ (fun t ht => by cases ht; exact spec_new rfl rfl rfl) (Ext.refl _))
      · refine rop_on [12, 15] (by kernel_rfl) (some (12, false)) (by kernel_rfl) (fun k b hk v w hS => by cases hk; exact hS.2 _ rfl) (fun K a W hK hx hl => ?_)
        have e15 : a.tmps.getD 15 undef = .agg #[.slice A0 S.rows.length c0, .int .i64 S.size] := (hl 15 (by decide)).2 _ rfl
        unfold Oper.wp
        rw [show (execOp a.eval _).run Try.prog W = .ok (.enter 62 #[.agg #[.slice A0 S.rows.length c0, .int .i64 S.size]]) W from by go_simp, Oper.upon_enter]
        refine (rAll_c F _ 0 _ S.rows S.size (HR.out.ext hx) hsm HPB.out).mono ?_
        rintro e w1 ⟨v1, rfl, ho1, hx1⟩
        obtain ⟨A1, n1, c1, rfl⟩ := ho1.form
        exact hK _ _ (fun t ht => by cases ht; exact spec_new rfl rfl ⟨A1, n1, c1, rfl, ownI_sl ho1 HAL.out HAB.out⟩) hx1
      · refine rop_on [12, 14, 16] (by kernel_rfl) (some (12, false)) (by kernel_rfl) (fun k b hk v w hS => by cases hk; exact hS.2 _ rfl) (fun K a W hK hx hl => ?_)
        obtain ⟨A14_, n14_, c14_, e14, h14⟩ := (hl 14 (by decide)).2 _ rfl
        obtain ⟨A16_, n16_, c16_, e16, h16⟩ := (hl 16 (by decide)).2 _ rfl
        unfold Oper.wp
        rw [show (execOp a.eval _).run Try.prog W = .ok (.enter 13 #[.slice A14_ n14_ c14_, .slice A16_ n16_ c16_]) W from by go_simp, Oper.upon_enter]
        refine (same_c _ _ _ (allA S.rows) _ _ _ (allA S.rows) _ h14 h16).mono ?_
        rintro e w1 ⟨rfl, hx1⟩
        rw [sameV_refl12]
        exact hK _ _ (fun t ht => by cases ht; exact spec_new rfl rfl rfl) hx1
      · refine rop_on [12, 17] (by kernel_rfl) (some (12, false)) (by kernel_rfl) (fun k b hk v w hS => by cases hk; exact hS.2 _ rfl) (fun K a W hK hx hl => ?_)
        have e17 : a.tmps.getD 17 undef = .bool true := (hl 17 (by decide)).2 _ rfl
        exact rop_val (v := .bool false) (by go_simp) (hK _ _ (fun t ht => by cases ht; exact spec_new rfl rfl rfl) (Ext.refl _))
      · refine rop_on [12, 18] (by kernel_rfl) none (by kernel_rfl) (fun k b hk => by cases hk) (fun K a W hK hx hl => ?_)
        have e12 : a.tmps.getD 12 undef = .bool false := (hl 12 (by decide)).2 _ rfl
        have e18 : a.tmps.getD 18 undef = .bool false := (hl 18 (by decide)).2 _ rfl
        exact rop_val (v := .bool false) (by go_simp) (hK _ _ (fun t ht => by cases ht; exact spec_new rfl rfl rfl) (Ext.refl _))
      · intro x hx; cases hx
    · intro vf W hx hS
      have h19 : vf 19 = .bool false := (hS 19 (any_dst (by kernel_rfl))).2 _ rfl
      simp only [fill, List.foldl_cons, List.foldl_nil, List.setIfInBounds_toArray, List.set_cons_zero, List.set_cons_succ]
      go_wp2_with fail
      go_meet
      exact ⟨h19, hx⟩
  case rest =>
    obtain ⟨rfl, hxc⟩ := hcut
    have HXC := Lib.hid hxc
    clear hxc HC0 HC1
    go_wp2_with fail
    go_loopw [5, 6] (fun i _ wr => ∃ k : Nat, k ≤ S.rows.length ∧ i = .int .i64 k ∧ Ext w0 wr) (fun i _ _ => S.rows.length - (intOf i).toNat)
    case atStart => exact ⟨0, Nat.zero_le _, rfl, HXC.out⟩
    case round =>
      obtain ⟨k, hk, rfl, hxr⟩ := hrel
      have hb := HB.out.ext hxr
      have a0 := hb.cell 0
      have HXR0 := Lib.hid hxr
      clear hb hxr
      by_cases hlt : k < S.rows.length
      · have hr : S.rows[k]? = some S.rows[k] := List.getElem?_eq_getElem hlt
        generalize S.rows[k] = r at hr
        obtain ⟨g, cap, kA, kn, kc, e, hq, z0, z1, z2, z3, z4, _⟩ := (HR.out.ext HXR0.out).at_ hr
        injection e with e1 e2 e3
        subst e1 e3
        have RB := Lib.hid (HRB.out k r hr)
        have PB := Lib.hid (HPB.out r (List.mem_of_getElem? hr))
        have hksl := ownI_sl hq.1 (by have := RB.out.1; omega) RB.out.2
        have hfd := HFD.out k r hr
        have HXR := Lib.hid (HXR0.out.alloc (Obj.cells #[.int .i64 r.pos, .int .i64 r.id, .slice kA kn kc, .bool r.learnt, .bool r.live] 72))
        have KSL := Lib.hid (hksl.ext ((Ext.refl _).alloc (Obj.cells #[.int .i64 r.pos, .int .i64 r.id, .slice kA kn kc, .bool r.learnt, .bool r.live] 72)))
        have hb := Blk.new wr 72 #[.int .i64 r.pos, .int .i64 r.id, .slice kA kn kc, .bool r.learnt, .bool r.live]
        have HC0 := Lib.hid (hb.cell 0)
        have HC1 := Lib.hid (hb.cell 1)
        have HC2 := Lib.hid (hb.cell 2)
        have HC3 := Lib.hid (hb.cell 3)
        have HC4 := Lib.hid (hb.cell 4)
        clear hr hq hksl hb
        cases hv : r.live with
        | true =>
          have FD := Lib.hid (hfd hv)
          rw [hv] at z4 HXR KSL HC0 HC1 HC2 HC3 HC4
          clear hfd hv
          go_wp2_with fail
          generalize wr.alloc (Obj.cells #[.int .i64 r.pos, .int .i64 r.id, .slice kA kn kc, .bool r.learnt, .bool true] 72) = W1 at HXR KSL HC0 HC1 HC2 HC3 HC4 ⊢
          go_cut [50] (fun s wx => s = .bool false ∧ Ext W1 wx)
          case first =>
            refine wp_region_invF (SpecS (baseS2 p wr.heap.size) (regS2 p wr.heap.size kn kc kA r.pos r.id r.learnt r.lits)) (by kernel_rfl) (by kernel_rfl) SpecS.ext (SpecS.start (by kernel_rfl) ?_) ?_ ?_
            · exact lookup_all (by simp [baseS2, Spec.holds])
            · simp only [List.forall_mem_cons]
              repeat' apply And.intro
              · refine rop_on [6] (by kernel_rfl) none (by kernel_rfl) (fun k b hk => by cases hk) (fun K a W hK hx hl => ?_)
                have e6 : a.tmps.getD 6 undef = .pointer (some ⟨wr.heap.size, 0, none⟩) := (hl 6 (by decide)).1 _ rfl
                exact rop_val (v := .pointer (some ⟨wr.heap.size, 4, none⟩)) (by go_simp) (hK _ _ (fun t ht => by cases ht; exact spec_new rfl rfl rfl) (Ext.refl _))
              · refine rop_on [32] (by kernel_rfl) none (by kernel_rfl) (fun k b hk => by cases hk) (fun K a W hK hx hl => ?_)
                have e32 : a.tmps.getD 32 undef = .pointer (some ⟨wr.heap.size, 4, none⟩) := (hl 32 (by decide)).2 _ rfl
                have z4 := hx.cell HC4.out
                exact rop_val (v := .bool true) (by go_simp) (hK _ _ (fun t ht => by cases ht; exact spec_new rfl rfl rfl) (Ext.refl _))
              · refine rop_on [33] (by kernel_rfl) none (by kernel_rfl) (fun k b hk => by cases hk) (fun K a W hK hx hl => ?_)
                have e33 : a.tmps.getD 33 undef = .bool true := (hl 33 (by decide)).2 _ rfl
                exact rop_val (v := .bool true) (by go_simp) (hK _ _ (fun t ht => by cases ht; exact spec_new rfl rfl rfl) (Ext.refl _))
              · refine rop_on [6, 34] (by kernel_rfl) (some (34, true)) (by kernel_rfl) (fun k b hk v w hS => by cases hk; exact hS.2 _ rfl) (fun K a W hK hx hl => ?_)
                have e6 : a.tmps.getD 6 undef = .pointer (some ⟨wr.heap.size, 0, none⟩) := (hl 6 (by decide)).1 _ rfl
                have z0 := hx.cell HC0.out
                have z1 := hx.cell HC1.out
                have z2 := hx.cell HC2.out
                have z3 := hx.cell HC3.out
                have z4 := hx.cell HC4.out
                exact rop_val (v := .agg #[.int .i64 r.pos, .int .i64 r.id, .slice kA kn kc, .bool r.learnt, .bool true]) (by go_simp) (hK _ _ (fun t ht => by cases ht; exact spec_new rfl rfl rfl) (Ext.refl _))
              · refine rop_on [0, 34] (by kernel_rfl) (some (34, true)) (by kernel_rfl) (fun k b hk v w hS => by cases hk; exact hS.2 _ rfl) (fun K a W hK hx hl => ?_)
                have e0 : a.tmps.getD 0 undef = .pointer (some ⟨p, 0, none⟩) := (hl 0 (by decide)).1 _ rfl
                exact rop_val (v := .pointer (some ⟨p, 0, none⟩)) (by go_simp) (hK _ _ (fun t ht => by cases ht; exact spec_new rfl rfl rfl) (Ext.refl _))
              · refine rop_on [6, 34] (by kernel_rfl) (some (34, true)) (by kernel_rfl) (fun k b hk v w hS => by cases hk; exact hS.2 _ rfl) (fun K a W hK hx hl => ?_)
                have e6 : a.tmps.getD 6 undef = .pointer (some ⟨wr.heap.size, 0, none⟩) := (hl 6 (by decide)).1 _ rfl
                exact rop_val (v := .pointer (some ⟨wr.heap.size, 0, none⟩)) (by go_simp) (hK _ _ (fun t ht => by cases ht; exact spec_new rfl rfl rfl) (Ext.refl _))
              · refine rop_on [34, 37] (by kernel_rfl) (some (34, true)) (by kernel_rfl) (fun k b hk v w hS => by cases hk; exact hS.2 _ rfl) (fun K a W hK hx hl => ?_)
                have e37 : a.tmps.getD 37 undef = .pointer (some ⟨wr.heap.size, 0, none⟩) := (hl 37 (by decide)).2 _ rfl
                have z0 := hx.cell HC0.out
                exact rop_val (v := .int .i64 r.pos) (by go_simp) (hK _ _ (fun t ht => by cases ht; exact spec_new rfl rfl rfl) (Ext.refl _))
              · refine rop_on [34, 36, 38] (by kernel_rfl) (some (34, true)) (by kernel_rfl) (fun k b hk v w hS => by cases hk; exact hS.2 _ rfl) (fun K a W hK hx hl => ?_)
                have e36 : a.tmps.getD 36 undef = .pointer (some ⟨p, 0, none⟩) := (hl 36 (by decide)).2 _ rfl
                have e38 : a.tmps.getD 38 undef = .int .i64 r.pos := (hl 38 (by decide)).2 _ rfl
                unfold Oper.wp
                rw [show (execOp a.eval _).run Try.prog W = .ok (.enter 30 #[.pointer (some ⟨p, 0, none⟩), .int .i64 r.pos]) W from by go_simp, Oper.upon_enter]
                refine (arId_c _ base p mb lv _ S r.pos (HM.out.ext (HXR.out.trans hx)) PB.out).mono ?_
                rintro e w1 ⟨rfl, rfl⟩
                rw [headA_of FD.out]
                exact hK _ _ (fun t ht => by cases ht; exact spec_new rfl rfl rfl) (Ext.refl _)
              · refine rop_on [0, 34] (by kernel_rfl) (some (34, true)) (by kernel_rfl) (fun k b hk v w hS => by cases hk; exact hS.2 _ rfl) (fun K a W hK hx hl => ?_)
                have e0 : a.tmps.getD 0 undef = .pointer (some ⟨p, 0, none⟩) := (hl 0 (by decide)).1 _ rfl
                exact rop_val (v := .pointer (some ⟨p, 0, none⟩)) (by go_simp) (hK _ _ (fun t ht => by cases ht; exact spec_new rfl rfl rfl) (Ext.refl _))
              · refine rop_on [6, 34] (by kernel_rfl) (some (34, true)) (by kernel_rfl) (fun k b hk v w hS => by cases hk; exact hS.2 _ rfl) (fun K a W hK hx hl => ?_)
                have e6 : a.tmps.getD 6 undef = .pointer (some ⟨wr.heap.size, 0, none⟩) := (hl 6 (by decide)).1 _ rfl
                exact rop_val (v := .pointer (some ⟨wr.heap.size, 0, none⟩)) (by go_simp) (hK _ _ (fun t ht => by cases ht; exact spec_new rfl rfl rfl) (Ext.refl _))
              · refine rop_on [34, 41] (by kernel_rfl) (some (34, true)) (by kernel_rfl) (fun k b hk v w hS => by cases hk; exact hS.2 _ rfl) (fun K a W hK hx hl => ?_)
                have e41 : a.tmps.getD 41 undef = .pointer (some ⟨wr.heap.size, 0, none⟩) := (hl 41 (by decide)).2 _ rfl
                have z0 := hx.cell HC0.out
                exact rop_val (v := .int .i64 r.pos) (by go_simp) (hK _ _ (fun t ht => by cases ht; exact spec_new rfl rfl rfl) (Ext.refl _))
              · refine rop_on [34, 40, 42] (by kernel_rfl) (some (34, true)) (by kernel_rfl) (fun k b hk v w hS => by cases hk; exact hS.2 _ rfl) (fun K a W hK hx hl => ?_)
                have e40 : a.tmps.getD 40 undef = .pointer (some ⟨p, 0, none⟩) := (hl 40 (by decide)).2 _ rfl
                have e42 : a.tmps.getD 42 undef = .int .i64 r.pos := (hl 42 (by decide)).2 _ rfl
                unfold Oper.wp
                rw [show (execOp a.eval _).run Try.prog W = .ok (.enter 31 #[.pointer (some ⟨p, 0, none⟩), .int .i64 r.pos]) W from by go_simp, Oper.upon_enter]
                refine (arLits_c _ base p mb lv _ S r.pos (HM.out.ext (HXR.out.trans hx)) PB.out).mono ?_
                rintro e w1 ⟨v1, rfl, ho1, hx1⟩
                rw [litsA_of FD.out] at ho1
                obtain ⟨A1, n1, c1, rfl⟩ := ho1.form
                exact hK _ _ (fun t ht => by cases ht; exact spec_new rfl rfl ⟨A1, n1, c1, rfl, ownI_sl ho1 (by have := RB.out.1; omega) RB.out.2⟩) hx1
              · refine rop_on [0, 34] (by kernel_rfl) (some (34, true)) (by kernel_rfl) (fun k b hk v w hS => by cases hk; exact hS.2 _ rfl) (fun K a W hK hx hl => ?_)
                have e0 : a.tmps.getD 0 undef = .pointer (some ⟨p, 0, none⟩) := (hl 0 (by decide)).1 _ rfl
                exact rop_val (v := .pointer (some ⟨p, 0, none⟩)) (by go_simp) (hK _ _ (fun t ht => by cases ht; exact spec_new rfl rfl rfl) (Ext.refl _))
              · refine rop_on [6, 34] (by kernel_rfl) (some (34, true)) (by kernel_rfl) (fun k b hk v w hS => by cases hk; exact hS.2 _ rfl) (fun K a W hK hx hl => ?_)
                have e6 : a.tmps.getD 6 undef = .pointer (some ⟨wr.heap.size, 0, none⟩) := (hl 6 (by decide)).1 _ rfl
                exact rop_val (v := .pointer (some ⟨wr.heap.size, 0, none⟩)) (by go_simp) (hK _ _ (fun t ht => by cases ht; exact spec_new rfl rfl rfl) (Ext.refl _))
              · refine rop_on [34, 45] (by kernel_rfl) (some (34, true)) (by kernel_rfl) (fun k b hk v w hS => by cases hk; exact hS.2 _ rfl) (fun K a W hK hx hl => ?_)
                have e45 : a.tmps.getD 45 undef = .pointer (some ⟨wr.heap.size, 0, none⟩) := (hl 45 (by decide)).2 _ rfl
                have z0 := hx.cell HC0.out
                exact rop_val (v := .int .i64 r.pos) (by go_simp) (hK _ _ (fun t ht => by cases ht; exact spec_new rfl rfl rfl) (Ext.refl _))
              · refine rop_on [34, 44, 46] (by kernel_rfl) (some (34, true)) (by kernel_rfl) (fun k b hk v w hS => by cases hk; exact hS.2 _ rfl) (fun K a W hK hx hl => ?_)
                have e44 : a.tmps.getD 44 undef = .pointer (some ⟨p, 0, none⟩) := (hl 44 (by decide)).2 _ rfl
                have e46 : a.tmps.getD 46 undef = .int .i64 r.pos := (hl 46 (by decide)).2 _ rfl
                unfold Oper.wp
                rw [show (execOp a.eval _).run Try.prog W = .ok (.enter 32 #[.pointer (some ⟨p, 0, none⟩), .int .i64 r.pos]) W from by go_simp, Oper.upon_enter]
                refine (arLearnt_c _ base p mb lv _ S r.pos (HM.out.ext (HXR.out.trans hx)) PB.out).mono ?_
                rintro e w1 ⟨rfl, rfl⟩
                rw [learntA_of FD.out]
                exact hK _ _ (fun t ht => by cases ht; exact spec_new rfl rfl rfl) (Ext.refl _)
              · refine rop_on [34, 35, 39, 43, 47] (by kernel_rfl) (some (34, true)) (by kernel_rfl) (fun k b hk v w hS => by cases hk; exact hS.2 _ rfl) (fun K a W hK hx hl => ?_)
                have e35 : a.tmps.getD 35 undef = .agg #[.int .i64 r.pos, .int .i64 r.id, .slice kA kn kc, .bool r.learnt, .bool true] := (hl 35 (by decide)).2 _ rfl
                have e39 : a.tmps.getD 39 undef = .int .i64 r.id := (hl 39 (by decide)).2 _ rfl
                obtain ⟨A43_, n43_, c43_, e43, h43⟩ := (hl 43 (by decide)).2 _ rfl
                have e47 : a.tmps.getD 47 undef = .bool r.learnt := (hl 47 (by decide)).2 _ rfl
                unfold Oper.wp
                rw [show (execOp a.eval _).run Try.prog W = .ok (.enter 38 #[.agg #[.int .i64 r.pos, .int .i64 r.id, .slice kA kn kc, .bool r.learnt, .bool true], .int .i64 r.id, .slice A43_ n43_ c43_, .bool r.learnt]) W from by go_simp, Oper.upon_enter]
                refine (sameRow_c _ r.pos r.id kA kn kc _ _ _ r.lits r.learnt true (KSL.out.ext hx) h43).mono ?_
                rintro e w1 ⟨rfl, hx1⟩
                exact hK _ _ (fun t ht => by cases ht; exact spec_new rfl rfl rfl) hx1
              · refine rop_on [34, 48] (by kernel_rfl) (some (34, true)) (by kernel_rfl) (fun k b hk v w hS => by cases hk; exact hS.2 _ rfl) (fun K a W hK hx hl => ?_)
                have e48 : a.tmps.getD 48 undef = .bool true := (hl 48 (by decide)).2 _ rfl
                exact rop_val (v := .bool false) (by go_simp) (hK _ _ (fun t ht => by cases ht; exact spec_new rfl rfl rfl) (Ext.refl _))
              · refine rop_on [34, 49] (by kernel_rfl) none (by kernel_rfl) (fun k b hk => by cases hk) (fun K a W hK hx hl => ?_)
                have e34 : a.tmps.getD 34 undef = .bool true := (hl 34 (by decide)).2 _ rfl
                have e49 : a.tmps.getD 49 undef = .bool false := (hl 49 (by decide)).2 _ rfl
                exact rop_val (v := .bool false) (by go_simp) (hK _ _ (fun t ht => by cases ht; exact spec_new rfl rfl rfl) (Ext.refl _))
              · intro x hx; cases hx
            · intro vf W hx hS
              have h50 : vf 50 = .bool false := (hS 50 (any_dst (by kernel_rfl))).2 _ rfl
              simp only [fill, List.foldl_cons, List.foldl_nil, List.setIfInBounds_toArray, List.set_cons_zero, List.set_cons_succ]
              go_wp2_with fail
              go_meet
              exact ⟨h50, hx⟩
          case rest =>
            obtain ⟨rfl, hxd⟩ := hcut
            have HXD := Lib.hid hxd
            clear hxd
            go_wp2_with fail
            go_roundw
            case rel => exact ⟨k + 1, by omega, by go_num, HXR.out.trans HXD.out⟩
            case measure => simp [intOf]; omega
        | false =>
          rw [hv] at z4 HXR KSL HC0 HC1 HC2 HC3 HC4
          clear hfd hv KSL HC0 HC1 HC2 HC3
          go_wp2_with fail
          generalize wr.alloc (Obj.cells #[.int .i64 r.pos, .int .i64 r.id, .slice kA kn kc, .bool r.learnt, .bool false] 72) = W1 at HXR HC4 ⊢
          go_cut [50] (fun s wx => s = .bool false ∧ Ext W1 wx)
          case first =>
            refine wp_region_invF (SpecS (baseS3 p wr.heap.size) (regS3 wr.heap.size)) (by kernel_rfl) (by kernel_rfl) SpecS.ext (SpecS.start (by kernel_rfl) ?_) ?_ ?_
            · exact lookup_all (by simp [baseS3, Spec.holds])
            · simp only [List.forall_mem_cons]
              repeat' apply And.intro
              · refine rop_on [6] (by kernel_rfl) none (by kernel_rfl) (fun k b hk => by cases hk) (fun K a W hK hx hl => ?_)
                have e6 : a.tmps.getD 6 undef = .pointer (some ⟨wr.heap.size, 0, none⟩) := (hl 6 (by decide)).1 _ rfl
                exact rop_val (v := .pointer (some ⟨wr.heap.size, 4, none⟩)) (by go_simp) (hK _ _ (fun t ht => by cases ht; exact spec_new rfl rfl rfl) (Ext.refl _))
              · refine rop_on [32] (by kernel_rfl) none (by kernel_rfl) (fun k b hk => by cases hk) (fun K a W hK hx hl => ?_)
                have e32 : a.tmps.getD 32 undef = .pointer (some ⟨wr.heap.size, 4, none⟩) := (hl 32 (by decide)).2 _ rfl
                have z4 := hx.cell HC4.out
                exact rop_val (v := .bool false) (by go_simp) (hK _ _ (fun t ht => by cases ht; exact spec_new rfl rfl rfl) (Ext.refl _))
              · refine rop_on [33] (by kernel_rfl) none (by kernel_rfl) (fun k b hk => by cases hk) (fun K a W hK hx hl => ?_)
                have e33 : a.tmps.getD 33 undef = .bool false := (hl 33 (by decide)).2 _ rfl
                exact rop_val (v := .bool false) (by go_simp) (hK _ _ (fun t ht => by cases ht; exact spec_new rfl rfl rfl) (Ext.refl _))
              · refine rop_off 34 2 true rfl rfl (by kernel_rfl) (fun v w hS => by rw [hS.2 _ rfl]; exact fun h => by cases h) (fun t w ht => by cases ht; exact spec_none rfl rfl)
              · refine rop_off 34 2 true rfl rfl (by kernel_rfl) (fun v w hS => by rw [hS.2 _ rfl]; exact fun h => by cases h) (fun t w ht => by cases ht; exact spec_none rfl rfl)
              · refine rop_off 34 2 true rfl rfl (by kernel_rfl) (fun v w hS => by rw [hS.2 _ rfl]; exact fun h => by cases h) (fun t w ht => by cases ht; exact spec_none rfl rfl)
              · refine rop_off 34 2 true rfl rfl (by kernel_rfl) (fun v w hS => by rw [hS.2 _ rfl]; exact fun h => by cases h) (fun t w ht => by cases ht; exact spec_none rfl rfl)
              · refine rop_off 34 2 true rfl rfl (by kernel_rfl) (fun v w hS => by rw [hS.2 _ rfl]; exact fun h => by cases h) (fun t w ht => by cases ht; exact spec_none rfl rfl)
              · refine rop_off 34 2 true rfl rfl (by kernel_rfl) (fun v w hS => by rw [hS.2 _ rfl]; exact fun h => by cases h) (fun t w ht => by cases ht; exact spec_none rfl rfl)
              · refine rop_off 34 2 true rfl rfl (by kernel_rfl) (fun v w hS => by rw [hS.2 _ rfl]; exact fun h => by cases h) (fun t w ht => by cases ht; exact spec_none rfl rfl)
              · refine rop_off 34 2 true rfl rfl (by kernel_rfl) (fun v w hS => by rw [hS.2 _ rfl]; exact fun h => by cases h) (fun t w ht => by cases ht; exact spec_none rfl rfl)
              · refine rop_off 34 2 true rfl rfl (by kernel_rfl) (fun v w hS => by rw [hS.2 _ rfl]; exact fun h => by cases h) (fun t w ht => by cases ht; exact spec_none rfl rfl)
              · refine rop_off 34 2 true rfl rfl (by kernel_rfl) (fun v w hS => by rw [hS.2 _ rfl]; exact fun h => by cases h) (fun t w ht => by cases ht; exact spec_none rfl rfl)
              · refine rop_off 34 2 true rfl rfl (by kernel_rfl) (fun v w hS => by rw [hS.2 _ rfl]; exact fun h => by cases h) (fun t w ht => by cases ht; exact spec_none rfl rfl)
              · refine rop_off 34 2 true rfl rfl (by kernel_rfl) (fun v w hS => by rw [hS.2 _ rfl]; exact fun h => by cases h) (fun t w ht => by cases ht; exact spec_none rfl rfl)
              · refine rop_off 34 2 true rfl rfl (by kernel_rfl) (fun v w hS => by rw [hS.2 _ rfl]; exact fun h => by cases h) (fun t w ht => by cases ht; exact spec_none rfl rfl)
              · refine rop_off 34 2 true rfl rfl (by kernel_rfl) (fun v w hS => by rw [hS.2 _ rfl]; exact fun h => by cases h) (fun t w ht => by cases ht; exact spec_none rfl rfl)
              · refine rop_off 34 2 true rfl rfl (by kernel_rfl) (fun v w hS => by rw [hS.2 _ rfl]; exact fun h => by cases h) (fun t w ht => by cases ht; exact spec_none rfl rfl)
              · refine rop_on [34, 49] (by kernel_rfl) none (by kernel_rfl) (fun k b hk => by cases hk) (fun K a W hK hx hl => ?_)
                have e34 : a.tmps.getD 34 undef = .bool false := (hl 34 (by decide)).2 _ rfl
                exact rop_val (v := .bool false) (by go_simp) (hK _ _ (fun t ht => by cases ht; exact spec_new rfl rfl rfl) (Ext.refl _))
              · intro x hx; cases hx
            · intro vf W hx hS
              have h50 : vf 50 = .bool false := (hS 50 (any_dst (by kernel_rfl))).2 _ rfl
              simp only [fill, List.foldl_cons, List.foldl_nil, List.setIfInBounds_toArray, List.set_cons_zero, List.set_cons_succ]
              go_wp2_with fail
              go_meet
              exact ⟨h50, hx⟩
          case rest =>
            obtain ⟨rfl, hxd⟩ := hcut
            have HXD := Lib.hid hxd
            clear hxd
            go_wp2_with fail
            go_roundw
            case rel => exact ⟨k + 1, by omega, by go_num, HXR.out.trans HXD.out⟩
            case measure => simp [intOf]; omega
      · go_wp2_with fail
        go_ret
        exact ⟨rfl, HX.out.trans HXR0.out⟩
end Go.Proofs.Ytbkimfefbdfkbaa
