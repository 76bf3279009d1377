/- RatAdds answers true. -/
import Derived.Test.YtdhohoabcokdjaaRatAwake
import Derived.Test.YtdhohoabcokdjaaRatP
import Derived.Test.YtdhohoabcokdjaaCaseI
import Derived.Test.YtdhohoabcokdjaaCnf5
import Derived.Test.YtdhohoabcokdjaaRegG
import Derived.Deep.RegionHeld3
set_option maxRecDepth 100000
namespace Go.Proofs.Ytdhohoabcokdjaa
open Go.RowKit

theorem dedL_nodup9 (xs : List Int) : (dedL xs).length = xs.length → xs.Nodup := by
  refine foldl_snoc_ind (P := fun xs => (dedL xs).length = xs.length → xs.Nodup) (fun _ => List.nodup_nil) (fun xs x ih h => ?_) xs
  rw [dedL_snoc] at h
  have hl := dedL_len xs
  cases hh : hasV (dedL xs) x with
  | true => rw [hh, if_pos rfl, List.length_append] at h; simp at h; omega
  | false =>
    rw [hh, if_neg (by simp), List.length_append, List.length_append] at h
    rw [dedL_has, hasV_not] at hh
    rw [List.nodup_append]
    exact ⟨ih (by simp at h; exact h), by simp, fun a ha b hb => by rw [List.mem_singleton.1 hb]; rintro rfl; exact hh ha⟩
theorem check_nodup9 {c : List Int} {v : Int} (h : cCheckV c v = 0) : c.Nodup ∧ ∀ x ∈ c, varV x ≠ 0 := by
  obtain ⟨hv, hl, hall⟩ := cCheckV_ok h
  have hval : ∀ x ∈ c, varV x ≠ 0 := fun x hx => (checkV_ok (hall x hx)).2.2.2.1
  have hs : seenL c = c := by
    unfold seenL
    rw [List.filter_eq_self]
    intro x hx
    simpa using hval x hx
  refine ⟨dedL_nodup9 c ?_, hval⟩
  have hl2 := dedL_len c
  unfold cCheckV at h
  rw [if_neg (by omega), if_neg (by omega)] at h
  have hb : badC c v = none := by
    unfold badC
    rw [List.find?_eq_none]
    intro x hx
    simp [hall x hx]
  rw [hb, hs] at h
  by_cases hlt : (dedL c).length < c.length
  · simp [hlt] at h
  · omega

def baseRA (gc gm : Nat) (A' : Option Addr) (c' : Nat) (m : List Bool) : List (Nat × Spec) := [(1, .val (.slice A' m.length c')), (2, .val (.pointer (some ⟨gc, 0, none⟩))), (12, .val (.pointer (some ⟨gm, 0, none⟩)))]
def regRA (A10 : Option Addr) (n10 c10 : Nat) (A' : Option Addr) (c' : Nat) (m : List Bool) : List (Nat × Spec) := [(4, .val (.bool true)), (83, .val (.agg #[.int .i64 m.length, .slice A10 n10 c10])), (84, .val (.slice A' m.length c')), (85, .val (.bool true)), (86, .val (.bool true)), (91, .val (undef)), (102, .val (.bool true)), (103, .val (.bool true)), (104, .val (.bool true)), (105, .val (.bool true))]
def regRB (gc : Nat) (ad : Addr) (n1 c1 : Nat) (p : Int) (A10 : Option Addr) (n10 c10 : Nat) (A' : Option Addr) (c' : Nat) (m : List Bool) : List (Nat × Spec) := [(4, .val (.bool true)), (83, .val (.agg #[.int .i64 m.length, .slice A10 n10 c10])), (84, .val (.slice A' m.length c')), (85, .val (.bool false)), (86, .val (.bool false)), (87, .val (.pointer (some ⟨gc, 1, none⟩))), (88, .val (.slice (some ad) n1 c1)), (89, .val (.int .i64 n1)), (90, .val (.bool true)), (91, .val (.bool true)), (92, .val (.agg #[.int .i64 m.length, .slice A10 n10 c10])), (93, .val (.slice A' m.length c')), (94, .val (.pointer (some ⟨gc, 1, none⟩))), (95, .val (.slice (some ad) n1 c1)), (96, .val (.pointer (some ad))), (97, .val (.int .i64 p)), (98, .ints ([p])), (99, .bools (flipV m [p])), (100, .val (.bool true)), (101, .val (.bool true)), (102, .val (.bool true)), (103, .val (.bool true)), (104, .val (.bool true)), (105, .val (.bool true))]
set_option maxRecDepth 100000 in
set_option maxHeartbeats 16000000 in
theorem lawRatAdds_c (A : Option Addr) (n c : Nat) (L : List (List Int)) (A1 : Option Addr) (n1 c1 : Nat) (cl : List Int) (A2 : Option Addr) (n2 c2 : Nat) (ah : List Int) (A3 : Option Addr) (n3 c3 : Nat) (each : List (List Int)) (A' : Option Addr) (n' c' : Nat) (m : List Bool) (w : World)
    (hf : RowsSl w A n L ∧ IntSl w A1 n1 cl ∧ IntSl w A2 n2 ah ∧ RowsSl w A3 n3 each) (h' : BoolSl w A' n' m) :
    Calls Try.prog 7 #[.agg #[.slice A n c, .slice A1 n1 c1, .slice A2 n2 c2, .slice A3 n3 c3], .slice A' n' c'] w fun e w' => e = .returned (.bool true) ∧ Ext w w' := by
  obtain ⟨h, h1, h2, h3⟩ := hf
  obtain rfl : m.length = n' := h'.1
  have hb0 := Blk.new w 61 #[.slice A n c, .slice A1 n1 c1, .slice A2 n2 c2, .slice A3 n3 c3]
  have HB0 := Lib.hid hb0
  have HXA : Hid (Ext w (w.alloc (Obj.cells #[.slice A n c, .slice A1 n1 c1, .slice A2 n2 c2, .slice A3 n3 c3] 61))) := (Ext.refl _).alloc _
  clear hb0
  have hfd : ∀ (V : Int) (A : Option Addr) (n c : Nat) (W : World), (Instr.field 48 (.agg #[.int .i64 V, .slice A n c]) 0).run Try.prog W = .ok (.int .i64 V) W := fun _ _ _ _ _ => by kernel_rfl
  cases hfew : few9V L cl ah each with
  | false =>
    have HF := Lib.hid hfew
    clear hfew
    go_enter Try.func7, Try.ntmps7
    go_wp2_with fail
    refine (few9_c _ _ _ L _ _ _ cl _ _ _ ah _ _ _ each _ (h.ext HXA.out) (h1.ext HXA.out) (h2.ext HXA.out) (h3.ext HXA.out)).mono ?_
    rintro e w1 ⟨rfl, hx1⟩
    rw [HF.out]
    go_wp2_with fail
    refine (law09awake_c _).mono ?_
    rintro e w2 ⟨rfl, hx2⟩
    go_wp2_with fail
    go_ret
    exact ⟨rfl, HXA.out.trans (hx1.trans hx2)⟩
  | true =>
    obtain ⟨hL60, hl60, ha30, he60, hrow, hrows⟩ : L.length ≤ 60 ∧ cl.length ≤ 60 ∧ ah.length ≤ 30 ∧ each.length ≤ 60 ∧ (∀ r ∈ each, r.length ≤ 1000) ∧ (∀ d ∈ L ++ [cl], d.length ≤ 1000000) := by
      unfold few9V at hfew
      simp only [Bool.and_eq_true, decide_eq_true_eq, List.all_eq_true] at hfew
      have hb := few8_bd hfew.1.1.1
      refine ⟨hb.2.1, hb.2.2, hfew.1.1.2, hfew.1.2, fun r hr => by have := hfew.2 r hr; omega, fun d hd => ?_⟩
      rcases List.mem_append.1 hd with hd | hd
      · have h8 := hfew.1.1.1
        unfold few8V fewV at h8
        simp only [Bool.and_eq_true, decide_eq_true_eq, List.all_eq_true] at h8
        have := h8.1.1.2 d hd; omega
      · rw [List.mem_singleton.1 hd]; omega
    have hn60 : n ≤ 60 := by have := h.1; omega
    have hn160 : n1 ≤ 60 := by have := h1.1; omega
    have hn230 : n2 ≤ 30 := by have := h2.1; omega
    have hn360 : n3 ≤ 60 := by have := h3.1; omega
    have HF := Lib.hid hfew
    have HROW := Lib.hid hrow
    have HROWS := Lib.hid hrows
    have hq : (rowsQ L ah).length ≤ 30 := by have := rowsQ_len L ah; omega
    have HQ := Lib.hid hq
    clear hfew hL60 hl60 ha30 he60 hrow hrows hq
    by_cases h200 : 200 < m.length
    · go_enter Try.func7, Try.ntmps7
      go_wp2_with fail
      refine (few9_c _ _ _ L _ _ _ cl _ _ _ ah _ _ _ each _ (h.ext HXA.out) (h1.ext HXA.out) (h2.ext HXA.out) (h3.ext HXA.out)).mono ?_
      rintro e w1 ⟨rfl, hx1⟩
      rw [HF.out]
      go_wp2_with fail
      refine (law09awake_c _).mono ?_
      rintro e w2 ⟨rfl, hx2⟩
      go_wp2_with fail
      go_ret
      exact ⟨rfl, HXA.out.trans (hx1.trans hx2)⟩
    · go_enter Try.func7, Try.ntmps7
      go_wp2_with fail
      refine (few9_c _ _ _ L _ _ _ cl _ _ _ ah _ _ _ each _ (h.ext HXA.out) (h1.ext HXA.out) (h2.ext HXA.out) (h3.ext HXA.out)).mono ?_
      rintro e w1 ⟨rfl, hx1⟩
      rw [HF.out]
      have hb1 := HB0.out.ext hx1
      have y0 := hb1.cell 0
      have y1 := hb1.cell 1
      have y2 := hb1.cell 2
      have y3 := hb1.cell 3
      have HB1 := Lib.hid hb1
      have HX1 := Lib.hid (HXA.out.trans hx1)
      clear hx1 hb1
      go_wp2_with fail
      refine (hintsC_c _ _ _ L _ _ _ _ _ _ _ _ _ each _ (h.ext HX1.out) (h3.ext HX1.out) (by omega) HROW.out).mono ?_
      rintro e w2 ⟨b2, Ae, ne, ce, rfl, hm2, hx2⟩
      have hmr := hm2.mapR hx2 rfl
      have hb2 := HB1.out.ext hx2
      have y0 := hb2.cell 0
      have y1 := hb2.cell 1
      have y2 := hb2.cell 2
      have y3 := hb2.cell 3
      have HB2 := Lib.hid hb2
      have HX2 := Lib.hid (HX1.out.trans hx2)
      have HMR := Lib.hid hmr
      clear hx2 hb2 hm2 hmr
      go_wp2_with fail
      go_region_held3 (fun w' => w'.cell? ⟨w.heap.size, 0, none⟩ = some (.slice A n c) ∧ w'.cell? ⟨w.heap.size, 1, none⟩ = some (.slice A1 n1 c1) ∧ w'.cell? ⟨w.heap.size, 2, none⟩ = some (.slice A2 n2 c2) ∧ w'.cell? ⟨w.heap.size, 3, none⟩ = some (.slice A3 n3 c3))
        (first | assumption | (go_split_ands; refine ⟨?_, ?_, ?_, ?_⟩ <;> first | assumption | exact Ext.cell (by assumption) (by assumption) | (go_simp; done)))
        (first
          | (go_at_call 35; (with_reducible refine (rows9_c _ _ _ L _ _ _ _ _ _ ah _ _ (Ext.refl _) (h.ext (HX2.out.trans ?_)) (h2.ext (HX2.out.trans ?_)) (by omega) ⟨_, _, _, _, _, _, _, _, _, rfl, rfl, rfl⟩).mono ?_); (repeat (first | with_reducible exact Ext.refl _ | with_reducible apply Ext.alloc | with_reducible apply Ext.drew | with_reducible apply Ext.drewN | (apply Ext.trans'; assumption))); (repeat (first | with_reducible exact Ext.refl _ | with_reducible apply Ext.alloc | with_reducible apply Ext.drew | with_reducible apply Ext.drewN | (apply Ext.trans'; assumption))); rintro e w3 ⟨A4, n4, c4, rfl, h4, _, _, hx3⟩; have hn4 : n4 ≤ 30 := (by have := h4.1; have := HQ.out; omega))
          | (go_at_call 30; (with_reducible refine (ratShow_c _ _ _ L _ _ _ cl _ _ _ (rowsQ L ah) (some b2) (hintF L each) _ (h.ext (HX2.out.trans ?_)) (h1.ext (HX2.out.trans ?_)) h4 (HMR.out.ext ?_) (by omega) (by omega) (by omega) (fun d hd => by have := HROWS.out d (List.mem_append_left _ hd); omega)).mono ?_); (repeat (first | with_reducible exact Ext.refl _ | with_reducible apply Ext.alloc | with_reducible apply Ext.drew | with_reducible apply Ext.drewN | (apply Ext.trans'; assumption))); (repeat (first | with_reducible exact Ext.refl _ | with_reducible apply Ext.alloc | with_reducible apply Ext.drew | with_reducible apply Ext.drewN | (apply Ext.trans'; assumption))); (repeat (first | with_reducible exact Ext.refl _ | with_reducible apply Ext.alloc | with_reducible apply Ext.drew | with_reducible apply Ext.drewN | (apply Ext.trans'; assumption))); rintro e w4 ⟨rfl, hx4⟩))
      have hb4 := HB2.out.ext (show Ext w2 w4 by (repeat (first | with_reducible exact Ext.refl _ | with_reducible apply Ext.alloc | with_reducible apply Ext.drew | with_reducible apply Ext.drewN | (apply Ext.trans'; assumption))))
      have y0 := hb4.cell 0
      have y1 := hb4.cell 1
      have y2 := hb4.cell 2
      have y3 := hb4.cell 3
      have HB4 := Lib.hid hb4
      have HX4 := Lib.hid (HX2.out.trans (show Ext w2 w4 by (repeat (first | with_reducible exact Ext.refl _ | with_reducible apply Ext.alloc | with_reducible apply Ext.drew | with_reducible apply Ext.drewN | (apply Ext.trans'; assumption)))))
      obtain ⟨a0, er, hrs⟩ : ∃ a0 er, ratShow L cl (rowsQ L ah) (hintF L each) = (a0, er) := ⟨_, _, rfl⟩
      rw [hrs]
      have HRS := Lib.hid hrs
      clear hrs hb4 hx3 hx4 h4 hn4 y0 y1 y2 y3
      have y0 := HB4.out.cell 0
      have y1 := HB4.out.cell 1
      have y2 := HB4.out.cell 2
      have y3 := HB4.out.cell 3
      have hb5 := HB4.out.alloc (Obj.cells #[.int .i64 m.length, .slice A n c] 48)
      have r1 := hb5.cell 1
      clear hb5
      go_wp2_with fail
      have hxa : Ext w4 ((w4.alloc (Obj.cells #[.int .i64 m.length, .slice A n c] 48)).alloc (Obj.cells #[.slice A1 n1 c1] 22)) := ((Ext.refl _).alloc _).alloc _
      have HBF := Lib.hid ((Blk.new w4 48 #[.int .i64 m.length, .slice A n c]).alloc (Obj.cells #[.slice A1 n1 c1] 22))
      refine (with_c (m.length : Nat) _ _ _ L _ 1 1 [cl] _ (h.ext (HX4.out.trans hxa)) (rowsSl_newg (w := w4.alloc _) [.slice A1 n1 c1] 22 [cl] 1 rfl (by decide) (by rw [World.size_alloc]) (RowVals.cons (h1.ext (HX4.out.trans ((Ext.refl _).alloc _))) (RowVals.nil _))) (by omega) (by omega) (by omega) (by omega) HROWS.out).mono ?_
      rintro e w6 ⟨A6, n6, c6, rfl, h6, _, hx6⟩
      go_wp2_with fail
      refine (cnfCheck_c _ _ _ _ (L ++ [cl]) _ h6).mono ?_
      rintro e w7 ⟨rfl, hx7⟩
      have hx47 : Ext w4 w7 := hxa.trans (hx6.trans hx7)
      have hb7 := HB4.out.ext hx47
      have hbf := HBF.out.ext (hx6.trans hx7)
      have HB7 := Lib.hid hb7
      have HBF7 := Lib.hid hbf
      have HX7 := Lib.hid (HX4.out.trans hx47)
      obtain ⟨q1, q2, hq⟩ : ∃ q1 q2, fCheckV (withV (m.length : Nat) [cl]) (L ++ [cl]) = (q1, q2) := ⟨_, _, rfl⟩
      rw [hq]
      have HQ2 := Lib.hid hq
      clear hq hb7 hbf hx47 hx7 hx6 hxa h6 y0 y1 y2 y3 r1
      have y1 := HB7.out.cell 1
      have f0 := HBF7.out.cell 0
      have f1 := HBF7.out.cell 1
      by_cases he0 : er = 0
      · subst he0
        by_cases hg0 : q2 = 0
        · subst hg0
          go_wp2_with fail
          have hxb : Ext w7 (w7.alloc (Obj.cells #[.slice A1 n1 c1] 22)) := (Ext.refl _).alloc _
          refine (with_c (m.length : Nat) _ _ _ L _ 1 1 [cl] _ (h.ext (HX7.out.trans hxb)) (rowsSl_newg (w := w7) [.slice A1 n1 c1] 22 [cl] 1 rfl (by decide) rfl (RowVals.cons (h1.ext HX7.out) (RowVals.nil _))) (by omega) (by omega) (by omega) (by omega) HROWS.out).mono ?_
          rintro e w8 ⟨A8, n8, c8, rfl, h8, _, hx8⟩
          have hx78 : Ext w7 w8 := hxb.trans hx8
          have HB8 := Lib.hid (HB7.out.ext hx78)
          have HBF8 := Lib.hid (HBF7.out.ext hx78)
          have HX8 := Lib.hid (HX7.out.trans hx78)
          clear hx78 hx8 hxb h8 y1 f0 f1
          have y1 := HB8.out.cell 1
          have f0 := HBF8.out.cell 0
          have f1 := HBF8.out.cell 1
          by_cases hW : withV (m.length : Nat) [cl] = (m.length : Nat)
          · rw [hW]
            have HW := Lib.hid hW
            clear hW
            go_wp2_with fail
            refine (cHolds_c (m.length : Nat) _ _ _ L _ _ _ m _ (h.ext HX8.out) (h'.ext HX8.out)).mono ?_
            rintro e w9 ⟨rfl, hx9⟩
            have HB9 := Lib.hid (HB8.out.ext hx9)
            have HBF9 := Lib.hid (HBF8.out.ext hx9)
            have HX9 := Lib.hid (HX8.out.trans hx9)
            clear hx9 y1 f0 f1
            have y1 := HB9.out.cell 1
            have f0 := HBF9.out.cell 0
            have f1 := HBF9.out.cell 1
            cases hH : holdsF (m.length : Nat) L m with
            | false =>
              clear hH
              go_wp2_with fail
              refine (law09awake_c _).mono ?_
              rintro e wa ⟨rfl, hxa⟩
              go_wp2_with fail
              go_ret
              exact ⟨rfl, HX9.out.trans hxa⟩
            | true =>
              have hL : ∀ d ∈ L, holdsV d m = true := by
                unfold holdsF at hH
                simp only [Bool.and_eq_true, decide_eq_true_eq] at hH
                exact firstV_neg.1 hH.2
              have hv : ∀ x ∈ cl, varV x ≠ 0 ∧ varV x ≤ (m.length : Int) := fun x hx => by
                have hok := (fCheckV_ok (v := withV (m.length : Nat) [cl]) (L := L ++ [cl]) (by rw [HQ2.out])).2 cl (List.mem_append_right _ (List.mem_singleton.2 rfl))
                refine ⟨(check_nodup9 hok.1).2 x hx, ?_⟩
                have e1 := mem_mostV hx
                have e2 := mem_withV (v := (m.length : Nat)) (M := [cl]) (List.mem_singleton.2 rfl)
                rw [HW.out] at e2
                omega
              have hpl := rat_plain (L := L) (cl := cl) (ah := rowsQ L ah) (F := hintF L each) (m := m) (by rw [HRS.out]) hL hv (fun d hd => rowsQ_mem hd) hintF_mem
              have HPL := Lib.hid hpl
              have HL := Lib.hid hL
              clear hH hL hv hpl
              go_wp2_with fail
              have hxb : Ext w9 (w9.alloc (Obj.cells #[.slice A1 n1 c1] 22)) := (Ext.refl _).alloc _
              refine (with_c (m.length : Nat) _ _ _ L _ 1 1 [cl] _ (h.ext (HX9.out.trans hxb)) (rowsSl_newg (w := w9) [.slice A1 n1 c1] 22 [cl] 1 rfl (by decide) rfl (RowVals.cons (h1.ext HX9.out) (RowVals.nil _))) (by omega) (by omega) (by omega) (by omega) HROWS.out).mono ?_
              rintro e w10 ⟨A10, n10, c10, rfl, h10, _, hx10⟩
              rw [HW.out]
              have hb10 := (HB9.out.ext (hxb.trans hx10)).alloc (Obj.cells #[.int .i64 m.length, .slice A10 n10 c10] 48)
              have HX10 := Lib.hid ((HX9.out.trans (hxb.trans hx10)).alloc (Obj.cells #[.int .i64 m.length, .slice A10 n10 c10] 48))
              have HB10 := Lib.hid hb10
              have HBM := Lib.hid (Blk.new w10 48 #[.int .i64 m.length, .slice A10 n10 c10])
              have H10 := Lib.hid (h10.ext ((Ext.refl w10).alloc (Obj.cells #[.int .i64 m.length, .slice A10 n10 c10] 48)))
              clear hb10 hx10 hxb h10 y1 f0 f1
              cases hcm : holdsV cl m with
              | true =>
                have hH : holdsF (m.length : Nat) (L ++ [cl]) m = true := by
                  unfold holdsF
                  simp only [decide_true, Bool.true_and, decide_eq_true_eq]
                  exact firstV_neg.2 fun d hd => by
                    rcases List.mem_append.1 hd with hd | hd
                    · exact HL.out d hd
                    · rw [List.mem_singleton.1 hd]; exact hcm
                have HH := Lib.hid hH
                clear hcm hH
                go_wp2_with fail
                have hmb := (HX10.out.size_le)
                generalize hwm : w10.alloc (Obj.cells #[.int .i64 m.length, .slice A10 n10 c10] 48) = wm at *
                clear hwm
                try simp only [List.append_eq, List.cons_append, List.nil_append]
                refine wp_region_invG (SpecS (baseRA w.heap.size w10.heap.size A' c' m) (regRA A10 n10 c10 A' c' m)) (by kernel_rfl) (by kernel_rfl) SpecS.ext (SpecS.start (by kernel_rfl) ?_) ?_ ?_
                · exact lookup_all (by simp [baseRA, Spec.holds])
                · simp only [List.forall_mem_cons]
                  repeat' apply And.intro
                  · refine rop_on [12] (by kernel_rfl) none (by kernel_rfl) (fun k b hk => by cases hk) (fun K a W hK hx hl => ?_)
                    have e12 : a.tmps.getD 12 undef = .pointer (some ⟨w10.heap.size, 0, none⟩) := (hl 12 (by decide)).1 _ rfl
                    have q0 := (HBM.out.ext hx).cell 0
                    have q1 := (HBM.out.ext hx).cell 1
                    have q2 := (HB10.out.ext hx).cell 1
                    exact rop_val (v := .agg #[.int .i64 m.length, .slice A10 n10 c10]) (by go_simp) (hK _ _ (fun t ht => by cases ht; exact spec_new rfl rfl rfl) (Ext.refl _))
                  · refine rop_on [1] (by kernel_rfl) none (by kernel_rfl) (fun k b hk => by cases hk) (fun K a W hK hx hl => ?_)
                    have e1 : a.tmps.getD 1 undef = .slice A' m.length c' := (hl 1 (by decide)).1 _ rfl
                    exact rop_val (v := .slice A' m.length c') (by go_simp) (hK _ _ (fun t ht => by cases ht; exact spec_new rfl rfl rfl) (Ext.refl _))
                  · refine rop_on [83, 84] (by kernel_rfl) none (by kernel_rfl) (fun k b hk => by cases hk) (fun K a W hK hx hl => ?_)
                    have e83 : a.tmps.getD 83 undef = .agg #[.int .i64 m.length, .slice A10 n10 c10] := (hl 83 (by decide)).2 _ rfl
                    have e84 : a.tmps.getD 84 undef = .slice A' m.length c' := (hl 84 (by decide)).2 _ rfl
                    unfold Oper.wp
                    rw [show (execOp a.eval _).run Try.prog W = .ok (.enter 38 #[.agg #[.int .i64 m.length, .slice A10 n10 c10], .slice A' m.length c']) W from by go_simp, Oper.upon_enter]
                    refine (cHolds_c (m.length : Nat) _ _ _ (L ++ [cl]) _ _ _ m _ (H10.out.ext hx) (h'.ext (HX10.out.trans hx))).mono ?_
                    rintro e w1 ⟨rfl, hx1⟩
                    rw [HH.out]
                    exact hK _ _ (fun t ht => by cases ht; exact spec_new rfl rfl rfl) hx1
                  · refine rop_on [85] (by kernel_rfl) none (by kernel_rfl) (fun k b hk => by cases hk) (fun K a W hK hx hl => ?_)
                    have e85 : a.tmps.getD 85 undef = .bool true := (hl 85 (by decide)).2 _ rfl
                    exact rop_val (v := .bool true) (by go_simp) (hK _ _ (fun t ht => by cases ht; exact spec_new rfl rfl rfl) (Ext.refl _))
                  · refine rop_off 86 3 false rfl rfl (by kernel_rfl) (fun v w hS => by rw [hS.2 _ rfl]; exact fun h => by cases h) (fun t w ht => by cases ht; exact spec_none rfl rfl)
                  · refine rop_off 86 3 false rfl rfl (by kernel_rfl) (fun v w hS => by rw [hS.2 _ rfl]; exact fun h => by cases h) (fun t w ht => by cases ht; exact spec_none rfl rfl)
                  · refine rop_off 86 3 false rfl rfl (by kernel_rfl) (fun v w hS => by rw [hS.2 _ rfl]; exact fun h => by cases h) (fun t w ht => by cases ht; exact spec_none rfl rfl)
                  · refine rop_off 86 3 false rfl rfl (by kernel_rfl) (fun v w hS => by rw [hS.2 _ rfl]; exact fun h => by cases h) (fun t w ht => by cases ht; exact spec_none rfl rfl)
                  · refine rop_off 86 3 false rfl rfl (by kernel_rfl) (fun v w hS => by rw [hS.2 _ rfl]; exact fun h => by cases h) (fun t w ht => by cases ht; exact spec_new rfl rfl rfl)
                  · refine rop_off 91 8 true rfl rfl (by kernel_rfl) (fun v w hS => by rw [hS.2 _ rfl]; exact fun h => by cases h) (fun t w ht => by cases ht; exact spec_none rfl rfl)
                  · refine rop_off 91 8 true rfl rfl (by kernel_rfl) (fun v w hS => by rw [hS.2 _ rfl]; exact fun h => by cases h) (fun t w ht => by cases ht; exact spec_none rfl rfl)
                  · refine rop_off 91 8 true rfl rfl (by kernel_rfl) (fun v w hS => by rw [hS.2 _ rfl]; exact fun h => by cases h) (fun t w ht => by cases ht; exact spec_none rfl rfl)
                  · refine rop_off 91 8 true rfl rfl (by kernel_rfl) (fun v w hS => by rw [hS.2 _ rfl]; exact fun h => by cases h) (fun t w ht => by cases ht; exact spec_none rfl rfl)
                  · refine rop_off 91 8 true rfl rfl (by kernel_rfl) (fun v w hS => by rw [hS.2 _ rfl]; exact fun h => by cases h) (fun t w ht => by cases ht; exact spec_none rfl rfl)
                  · refine rop_off 91 8 true rfl rfl (by kernel_rfl) (fun v w hS => by rw [hS.2 _ rfl]; exact fun h => by cases h) (fun t w ht => by cases ht; exact spec_none rfl rfl)
                  · refine rop_off 91 8 true rfl rfl (by kernel_rfl) (fun v w hS => by rw [hS.2 _ rfl]; exact fun h => by cases h) (fun t w ht => by cases ht; exact spec_none rfl rfl)
                  · refine rop_off 91 8 true rfl rfl (by kernel_rfl) (fun v w hS => by rw [hS.2 _ rfl]; exact fun h => by cases h) (fun t w ht => by cases ht; exact spec_none rfl rfl)
                  · refine rop_off 91 8 true rfl rfl (by kernel_rfl) (fun v w hS => by rw [hS.2 _ rfl]; exact fun h => by cases h) (fun t w ht => by cases ht; exact spec_none rfl rfl)
                  · refine rop_off 86 3 false rfl rfl (by kernel_rfl) (fun v w hS => by rw [hS.2 _ rfl]; exact fun h => by cases h) (fun t w ht => by cases ht; exact spec_none rfl rfl)
                  · refine rop_on [86, 101] (by kernel_rfl) none (by kernel_rfl) (fun k b hk => by cases hk) (fun K a W hK hx hl => ?_)
                    have e86 : a.tmps.getD 86 undef = .bool true := (hl 86 (by decide)).2 _ rfl
                    exact rop_val (v := .bool true) (by go_simp) (hK _ _ (fun t ht => by cases ht; exact spec_new rfl rfl rfl) (Ext.refl _))
                  · refine rop_on [102] (by kernel_rfl) none (by kernel_rfl) (fun k b hk => by cases hk) (fun K a W hK hx hl => ?_)
                    have e102 : a.tmps.getD 102 undef = .bool true := (hl 102 (by decide)).2 _ rfl
                    exact rop_val (v := .bool true) (by go_simp) (hK _ _ (fun t ht => by cases ht; exact spec_new rfl rfl rfl) (Ext.refl _))
                  · refine rop_on [103] (by kernel_rfl) (some (103, true)) (by kernel_rfl) (fun k b hk v w hS => by cases hk; exact hS.2 _ rfl) (fun K a W hK hx hl => ?_)
                    unfold Oper.wp
                    rw [show (execOp a.eval _).run Try.prog W = .ok (.enter 26 #[]) W from by go_simp, Oper.upon_enter]
                    refine (law09awake_c _).mono ?_
                    rintro e w1 ⟨rfl, hx1⟩
                    exact hK _ _ (fun t ht => by cases ht; exact spec_new rfl rfl rfl) hx1
                  · refine rop_on [103, 104] (by kernel_rfl) none (by kernel_rfl) (fun k b hk => by cases hk) (fun K a W hK hx hl => ?_)
                    have e103 : a.tmps.getD 103 undef = .bool true := (hl 103 (by decide)).2 _ rfl
                    have e104 : a.tmps.getD 104 undef = .bool true := (hl 104 (by decide)).2 _ rfl
                    exact rop_val (v := .bool true) (by go_simp) (hK _ _ (fun t ht => by cases ht; exact spec_new rfl rfl rfl) (Ext.refl _))
                  · refine rop_on [105] (by kernel_rfl) none (by kernel_rfl) (fun k b hk => by cases hk) (fun K a W hK hx hl => ?_)
                    have e105 : a.tmps.getD 105 undef = .bool true := (hl 105 (by decide)).2 _ rfl
                    exact rop_val (v := .bool true) (by go_simp) (hK _ _ (fun t ht => by cases ht; exact spec_new rfl rfl rfl) (Ext.refl _))
                  · intro x hx; cases hx
                · intro a W hx hdef _ hS
                  go_wp2_with fail
                  refine bodyPost_ret (results_tmp rfl _ _ _) (by rw [hdef]) ?_
                  rw [show a.tmps.getD 4 undef = .bool true from (hS 4).2 _ rfl]
                  exact ⟨rfl, HX10.out.trans hx⟩
              | false =>
                have hB : cl ≠ [] ∧ ∀ d ∈ L ++ [cl], holdsV d (flipV m [cl.headD 0]) = true := by
                  rcases HPL.out with e | e
                  · rw [hcm] at e; cases e
                  · exact e
                obtain ⟨p, xs, hcl⟩ : ∃ p xs, cl = p :: xs := by
                  cases cl with
                  | nil => exact absurd rfl hB.1
                  | cons p xs => exact ⟨p, xs, rfl⟩
                have hfl := flipV_len [p] m
                have hH : holdsF (m.length : Nat) (L ++ [cl]) m = false := by
                  unfold holdsF
                  simp only [decide_true, Bool.true_and, decide_eq_false_iff_not]
                  intro h
                  have := firstV_neg.1 h cl (List.mem_append_right _ (List.mem_singleton.2 rfl))
                  rw [hcm] at this; cases this
                have hH2 : holdsF (m.length : Nat) (L ++ [cl]) (flipV m [p]) = true := by
                  unfold holdsF
                  rw [hfl]
                  simp only [decide_true, Bool.true_and, decide_eq_true_eq]
                  exact firstV_neg.2 fun d hd => by
                    have := hB.2 d hd
                    rw [hcl] at this
                    exact this
                have hn1p : 0 < n1 := by
                  have := h1.1
                  rw [hcl] at this
                  simp at this
                  omega
                have hn1i : (0 : Int) < (n1 : Int) := by omega
                obtain ⟨ad, p', rfl, hp', hcp, hp1, hp2⟩ := h1.at_ hn1p
                have hpp : p' = p := by have := hp'.out; rw [hcl] at this; simpa using this.symm
                subst hpp
                have e0 : ad.add 0 = ad := by unfold Addr.add; split <;> simp_all
                rw [e0] at hcp
                have HCP := Lib.hid hcp
                have HH := Lib.hid hH
                have HH2 := Lib.hid hH2
                have HFL := Lib.hid hfl
                clear hcm hH hH2 hfl hB hcl hp' e0 hcp
                go_wp2_with fail
                have hmb := (HX10.out.size_le)
                generalize hwm : w10.alloc (Obj.cells #[.int .i64 m.length, .slice A10 n10 c10] 48) = wm at *
                clear hwm
                try simp only [List.append_eq, List.cons_append, List.nil_append]
                refine wp_region_invG (SpecS (baseRA w.heap.size w10.heap.size A' c' m) (regRB w.heap.size ad n1 c1 p' A10 n10 c10 A' c' m)) (by kernel_rfl) (by kernel_rfl) SpecS.ext (SpecS.start (by kernel_rfl) ?_) ?_ ?_
                · exact lookup_all (by simp [baseRA, Spec.holds])
                · simp only [List.forall_mem_cons]
                  repeat' apply And.intro
                  · refine rop_on [12] (by kernel_rfl) none (by kernel_rfl) (fun k b hk => by cases hk) (fun K a W hK hx hl => ?_)
                    have e12 : a.tmps.getD 12 undef = .pointer (some ⟨w10.heap.size, 0, none⟩) := (hl 12 (by decide)).1 _ rfl
                    have q0 := (HBM.out.ext hx).cell 0
                    have q1 := (HBM.out.ext hx).cell 1
                    have q2 := (HB10.out.ext hx).cell 1
                    have q3 := (HX10.out.trans hx).cell HCP.out
                    exact rop_val (v := .agg #[.int .i64 m.length, .slice A10 n10 c10]) (by go_simp) (hK _ _ (fun t ht => by cases ht; exact spec_new rfl rfl rfl) (Ext.refl _))
                  · refine rop_on [1] (by kernel_rfl) none (by kernel_rfl) (fun k b hk => by cases hk) (fun K a W hK hx hl => ?_)
                    have e1 : a.tmps.getD 1 undef = .slice A' m.length c' := (hl 1 (by decide)).1 _ rfl
                    exact rop_val (v := .slice A' m.length c') (by go_simp) (hK _ _ (fun t ht => by cases ht; exact spec_new rfl rfl rfl) (Ext.refl _))
                  · refine rop_on [83, 84] (by kernel_rfl) none (by kernel_rfl) (fun k b hk => by cases hk) (fun K a W hK hx hl => ?_)
                    have e83 : a.tmps.getD 83 undef = .agg #[.int .i64 m.length, .slice A10 n10 c10] := (hl 83 (by decide)).2 _ rfl
                    have e84 : a.tmps.getD 84 undef = .slice A' m.length c' := (hl 84 (by decide)).2 _ rfl
                    unfold Oper.wp
                    rw [show (execOp a.eval _).run Try.prog W = .ok (.enter 38 #[.agg #[.int .i64 m.length, .slice A10 n10 c10], .slice A' m.length c']) W from by go_simp, Oper.upon_enter]
                    refine (cHolds_c (m.length : Nat) _ _ _ (L ++ [cl]) _ _ _ m _ (H10.out.ext hx) (h'.ext (HX10.out.trans hx))).mono ?_
                    rintro e w1 ⟨rfl, hx1⟩
                    rw [HH.out]
                    exact hK _ _ (fun t ht => by cases ht; exact spec_new rfl rfl rfl) hx1
                  · refine rop_on [85] (by kernel_rfl) none (by kernel_rfl) (fun k b hk => by cases hk) (fun K a W hK hx hl => ?_)
                    have e85 : a.tmps.getD 85 undef = .bool false := (hl 85 (by decide)).2 _ rfl
                    exact rop_val (v := .bool false) (by go_simp) (hK _ _ (fun t ht => by cases ht; exact spec_new rfl rfl rfl) (Ext.refl _))
                  · refine rop_on [2, 86] (by kernel_rfl) (some (86, false)) (by kernel_rfl) (fun k b hk v w hS => by cases hk; exact hS.2 _ rfl) (fun K a W hK hx hl => ?_)
                    have e2 : a.tmps.getD 2 undef = .pointer (some ⟨w.heap.size, 0, none⟩) := (hl 2 (by decide)).1 _ rfl
                    exact rop_val (v := .pointer (some ⟨w.heap.size, 1, none⟩)) (by go_simp) (hK _ _ (fun t ht => by cases ht; exact spec_new rfl rfl rfl) (Ext.refl _))
                  · refine rop_on [86, 87] (by kernel_rfl) (some (86, false)) (by kernel_rfl) (fun k b hk v w hS => by cases hk; exact hS.2 _ rfl) (fun K a W hK hx hl => ?_)
                    have e87 : a.tmps.getD 87 undef = .pointer (some ⟨w.heap.size, 1, none⟩) := (hl 87 (by decide)).2 _ rfl
                    have q0 := (HBM.out.ext hx).cell 0
                    have q1 := (HBM.out.ext hx).cell 1
                    have q2 := (HB10.out.ext hx).cell 1
                    have q3 := (HX10.out.trans hx).cell HCP.out
                    exact rop_val (v := .slice (some ad) n1 c1) (by go_simp) (hK _ _ (fun t ht => by cases ht; exact spec_new rfl rfl rfl) (Ext.refl _))
                  · refine rop_on [86, 88] (by kernel_rfl) (some (86, false)) (by kernel_rfl) (fun k b hk v w hS => by cases hk; exact hS.2 _ rfl) (fun K a W hK hx hl => ?_)
                    have e88 : a.tmps.getD 88 undef = .slice (some ad) n1 c1 := (hl 88 (by decide)).2 _ rfl
                    exact rop_val (v := .int .i64 n1) (by go_simp) (hK _ _ (fun t ht => by cases ht; exact spec_new rfl rfl rfl) (Ext.refl _))
                  · refine rop_on [86, 89] (by kernel_rfl) (some (86, false)) (by kernel_rfl) (fun k b hk v w hS => by cases hk; exact hS.2 _ rfl) (fun K a W hK hx hl => ?_)
                    have e89 : a.tmps.getD 89 undef = .int .i64 n1 := (hl 89 (by decide)).2 _ rfl
                    exact rop_val (v := .bool true) (by go_simp) (hK _ _ (fun t ht => by cases ht; exact spec_new rfl rfl rfl) (Ext.refl _))
                  · refine rop_on [86, 90] (by kernel_rfl) (some (86, false)) (by kernel_rfl) (fun k b hk v w hS => by cases hk; exact hS.2 _ rfl) (fun K a W hK hx hl => ?_)
                    have e90 : a.tmps.getD 90 undef = .bool true := (hl 90 (by decide)).2 _ rfl
                    exact rop_val (v := .bool true) (by go_simp) (hK _ _ (fun t ht => by cases ht; exact spec_new rfl rfl rfl) (Ext.refl _))
                  · refine rop_on [12, 91] (by kernel_rfl) (some (91, true)) (by kernel_rfl) (fun k b hk v w hS => by cases hk; exact hS.2 _ rfl) (fun K a W hK hx hl => ?_)
                    have e12 : a.tmps.getD 12 undef = .pointer (some ⟨w10.heap.size, 0, none⟩) := (hl 12 (by decide)).1 _ rfl
                    have q0 := (HBM.out.ext hx).cell 0
                    have q1 := (HBM.out.ext hx).cell 1
                    have q2 := (HB10.out.ext hx).cell 1
                    have q3 := (HX10.out.trans hx).cell HCP.out
                    exact rop_val (v := .agg #[.int .i64 m.length, .slice A10 n10 c10]) (by go_simp) (hK _ _ (fun t ht => by cases ht; exact spec_new rfl rfl rfl) (Ext.refl _))
                  · refine rop_on [1, 91] (by kernel_rfl) (some (91, true)) (by kernel_rfl) (fun k b hk v w hS => by cases hk; exact hS.2 _ rfl) (fun K a W hK hx hl => ?_)
                    have e1 : a.tmps.getD 1 undef = .slice A' m.length c' := (hl 1 (by decide)).1 _ rfl
                    exact rop_val (v := .slice A' m.length c') (by go_simp) (hK _ _ (fun t ht => by cases ht; exact spec_new rfl rfl rfl) (Ext.refl _))
                  · refine rop_on [2, 91] (by kernel_rfl) (some (91, true)) (by kernel_rfl) (fun k b hk v w hS => by cases hk; exact hS.2 _ rfl) (fun K a W hK hx hl => ?_)
                    have e2 : a.tmps.getD 2 undef = .pointer (some ⟨w.heap.size, 0, none⟩) := (hl 2 (by decide)).1 _ rfl
                    exact rop_val (v := .pointer (some ⟨w.heap.size, 1, none⟩)) (by go_simp) (hK _ _ (fun t ht => by cases ht; exact spec_new rfl rfl rfl) (Ext.refl _))
                  · refine rop_on [91, 94] (by kernel_rfl) (some (91, true)) (by kernel_rfl) (fun k b hk v w hS => by cases hk; exact hS.2 _ rfl) (fun K a W hK hx hl => ?_)
                    have e94 : a.tmps.getD 94 undef = .pointer (some ⟨w.heap.size, 1, none⟩) := (hl 94 (by decide)).2 _ rfl
                    have q0 := (HBM.out.ext hx).cell 0
                    have q1 := (HBM.out.ext hx).cell 1
                    have q2 := (HB10.out.ext hx).cell 1
                    have q3 := (HX10.out.trans hx).cell HCP.out
                    exact rop_val (v := .slice (some ad) n1 c1) (by go_simp) (hK _ _ (fun t ht => by cases ht; exact spec_new rfl rfl rfl) (Ext.refl _))
                  · refine rop_on [91, 95] (by kernel_rfl) (some (91, true)) (by kernel_rfl) (fun k b hk v w hS => by cases hk; exact hS.2 _ rfl) (fun K a W hK hx hl => ?_)
                    have e95 : a.tmps.getD 95 undef = .slice (some ad) n1 c1 := (hl 95 (by decide)).2 _ rfl
                    exact rop_val (v := .pointer (some ad)) (by go_simp) (hK _ _ (fun t ht => by cases ht; exact spec_new rfl rfl rfl) (Ext.refl _))
                  · refine rop_on [91, 96] (by kernel_rfl) (some (91, true)) (by kernel_rfl) (fun k b hk v w hS => by cases hk; exact hS.2 _ rfl) (fun K a W hK hx hl => ?_)
                    have e96 : a.tmps.getD 96 undef = .pointer (some ad) := (hl 96 (by decide)).2 _ rfl
                    have q0 := (HBM.out.ext hx).cell 0
                    have q1 := (HBM.out.ext hx).cell 1
                    have q2 := (HB10.out.ext hx).cell 1
                    have q3 := (HX10.out.trans hx).cell HCP.out
                    exact rop_val (v := .int .i64 p') (by go_simp) (hK _ _ (fun t ht => by cases ht; exact spec_new rfl rfl rfl) (Ext.refl _))
                  · refine rop_on [91, 97] (by kernel_rfl) (some (91, true)) (by kernel_rfl) (fun k b hk v w hS => by cases hk; exact hS.2 _ rfl) (fun K a W hK hx hl => ?_)
                    have e97 : a.tmps.getD 97 undef = .int .i64 p' := (hl 97 (by decide)).2 _ rfl
                    have e97' : a.tmps[97]?.getD undef = .int .i64 p' := by simpa using e97
                    exact rop_val2 (v := .slice (some ⟨W.heap.size, 0, none⟩) 1 1) (w' := W.alloc (.cells #[.int .i64 (p')] 3)) (by go_simp) (hK _ _ (fun t ht => by cases ht; exact spec_new rfl rfl ⟨_, _, _, rfl, intSl_newg #[.int .i64 (p')] 3 [p'] 1 rfl rfl (by decide) (by first | decide | (intro x hx; simp at hx; omega)) W _ rfl⟩) ((Ext.refl W).alloc _))
                  · refine rop_on [91, 93, 98] (by kernel_rfl) (some (91, true)) (by kernel_rfl) (fun k b hk v w hS => by cases hk; exact hS.2 _ rfl) (fun K a W hK hx hl => ?_)
                    have e93 : a.tmps.getD 93 undef = .slice A' m.length c' := (hl 93 (by decide)).2 _ rfl
                    obtain ⟨A98_, n98_, c98_, e98, h98⟩ := (hl 98 (by decide)).2 _ rfl
                    unfold Oper.wp
                    rw [show (execOp a.eval _).run Try.prog W = .ok (.enter 31 #[.slice A' m.length c', .slice A98_ n98_ c98_]) W from by go_simp, Oper.upon_enter]
                    refine (flip_c _ _ _ m _ _ _ [p'] _ (h'.ext (HX10.out.trans hx)) h98 (by omega)).mono ?_
                    rintro e w1 ⟨A4, c4, rfl, hnb, hx1⟩
                    have hfb := hnb.sl (by omega)
                    exact hK _ _ (fun t ht => by cases ht; exact spec_new rfl rfl ⟨_, _, _, rfl, hfb⟩) hx1
                  · refine rop_on [91, 92, 99] (by kernel_rfl) (some (91, true)) (by kernel_rfl) (fun k b hk v w hS => by cases hk; exact hS.2 _ rfl) (fun K a W hK hx hl => ?_)
                    have e92 : a.tmps.getD 92 undef = .agg #[.int .i64 m.length, .slice A10 n10 c10] := (hl 92 (by decide)).2 _ rfl
                    obtain ⟨A99_, n99_, c99_, e99, h99⟩ := (hl 99 (by decide)).2 _ rfl
                    unfold Oper.wp
                    rw [show (execOp a.eval _).run Try.prog W = .ok (.enter 38 #[.agg #[.int .i64 m.length, .slice A10 n10 c10], .slice A99_ n99_ c99_]) W from by go_simp, Oper.upon_enter]
                    refine (cHolds_c (m.length : Nat) _ _ _ (L ++ [cl]) _ _ _ (flipV m [p']) _ (H10.out.ext hx) h99).mono ?_
                    rintro e w1 ⟨rfl, hx1⟩
                    rw [HH2.out]
                    exact hK _ _ (fun t ht => by cases ht; exact spec_new rfl rfl rfl) hx1
                  · refine rop_on [86, 91, 100] (by kernel_rfl) (some (86, false)) (by kernel_rfl) (fun k b hk v w hS => by cases hk; exact hS.2 _ rfl) (fun K a W hK hx hl => ?_)
                    have e91 : a.tmps.getD 91 undef = .bool true := (hl 91 (by decide)).2 _ rfl
                    have e100 : a.tmps.getD 100 undef = .bool true := (hl 100 (by decide)).2 _ rfl
                    exact rop_val (v := .bool true) (by go_simp) (hK _ _ (fun t ht => by cases ht; exact spec_new rfl rfl rfl) (Ext.refl _))
                  · refine rop_on [86, 101] (by kernel_rfl) none (by kernel_rfl) (fun k b hk => by cases hk) (fun K a W hK hx hl => ?_)
                    have e86 : a.tmps.getD 86 undef = .bool false := (hl 86 (by decide)).2 _ rfl
                    have e101 : a.tmps.getD 101 undef = .bool true := (hl 101 (by decide)).2 _ rfl
                    exact rop_val (v := .bool true) (by go_simp) (hK _ _ (fun t ht => by cases ht; exact spec_new rfl rfl rfl) (Ext.refl _))
                  · refine rop_on [102] (by kernel_rfl) none (by kernel_rfl) (fun k b hk => by cases hk) (fun K a W hK hx hl => ?_)
                    have e102 : a.tmps.getD 102 undef = .bool true := (hl 102 (by decide)).2 _ rfl
                    exact rop_val (v := .bool true) (by go_simp) (hK _ _ (fun t ht => by cases ht; exact spec_new rfl rfl rfl) (Ext.refl _))
                  · refine rop_on [103] (by kernel_rfl) (some (103, true)) (by kernel_rfl) (fun k b hk v w hS => by cases hk; exact hS.2 _ rfl) (fun K a W hK hx hl => ?_)
                    unfold Oper.wp
                    rw [show (execOp a.eval _).run Try.prog W = .ok (.enter 26 #[]) W from by go_simp, Oper.upon_enter]
                    refine (law09awake_c _).mono ?_
                    rintro e w1 ⟨rfl, hx1⟩
                    exact hK _ _ (fun t ht => by cases ht; exact spec_new rfl rfl rfl) hx1
                  · refine rop_on [103, 104] (by kernel_rfl) none (by kernel_rfl) (fun k b hk => by cases hk) (fun K a W hK hx hl => ?_)
                    have e103 : a.tmps.getD 103 undef = .bool true := (hl 103 (by decide)).2 _ rfl
                    have e104 : a.tmps.getD 104 undef = .bool true := (hl 104 (by decide)).2 _ rfl
                    exact rop_val (v := .bool true) (by go_simp) (hK _ _ (fun t ht => by cases ht; exact spec_new rfl rfl rfl) (Ext.refl _))
                  · refine rop_on [105] (by kernel_rfl) none (by kernel_rfl) (fun k b hk => by cases hk) (fun K a W hK hx hl => ?_)
                    have e105 : a.tmps.getD 105 undef = .bool true := (hl 105 (by decide)).2 _ rfl
                    exact rop_val (v := .bool true) (by go_simp) (hK _ _ (fun t ht => by cases ht; exact spec_new rfl rfl rfl) (Ext.refl _))
                  · intro x hx; cases hx
                · intro a W hx hdef _ hS
                  go_wp2_with fail
                  refine bodyPost_ret (results_tmp rfl _ _ _) (by rw [hdef]) ?_
                  rw [show a.tmps.getD 4 undef = .bool true from (hS 4).2 _ rfl]
                  exact ⟨rfl, HX10.out.trans hx⟩
          · have hWb : (withV (m.length : Nat) [cl] != (m.length : Nat)) = true := by simpa using hW
            generalize withV (m.length : Nat) [cl] = V at hWb ⊢
            clear hW
            go_wp2_with fail
            refine (law09awake_c _).mono ?_
            rintro e wa ⟨rfl, hxa⟩
            go_wp2_with fail
            go_ret
            exact ⟨rfl, HX8.out.trans hxa⟩
        · have hgb : (q2 != 0) = true := by simpa using hg0
          clear hg0
          go_wp2_with fail
          refine (law09awake_c _).mono ?_
          rintro e wa ⟨rfl, hxa⟩
          go_wp2_with fail
          go_ret
          exact ⟨rfl, HX7.out.trans hxa⟩
      · have heb : (er != 0) = true := by simpa using he0
        clear he0
        go_wp2_with fail
        refine (law09awake_c _).mono ?_
        rintro e wa ⟨rfl, hxa⟩
        go_wp2_with fail
        go_ret
        exact ⟨rfl, HX7.out.trans hxa⟩
end Go.Proofs.Ytdhohoabcokdjaa
