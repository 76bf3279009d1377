/- TrailBack answers true. -/
import Derived.Test.YtbkimfefbdfkbaaTrailAwake
import Derived.Test.YtbkimfefbdfkbaaTrail15
import Derived.Test.YtbkimfefbdfkbaaActs13
import Derived.Test.YtbkimfefbdfkbaaRegF
import Derived.Deep.RegionHeld3
import Derived.Deep.RegionLaw
import Derived.Deep.DeepCutAuto
set_option maxRecDepth 100000
namespace Go.Proofs.Ytbkimfefbdfkbaa
open Go.RowKit

theorem row_var {S : TSt} (h : TInv S) {r : TRow} (hr : r ∈ S.rows) : (if r.lit < -r.lit then -r.lit else r.lit) = varV r.lit ∧ -100000 ≤ r.lit ∧ r.lit ≤ 100000 ∧ 1 ≤ varV r.lit ∧ varV r.lit ≤ 100000 := by
  have h1 := h.lits r hr
  have h2 := check_var h1
  have h3 := h.v1
  exact ⟨by split <;> omega, by omega, by omega, by omega, by omega⟩
theorem RowsT.ofLen {w : World} {b q : Nat} {v : Value} {rows : List TRow} (h : RowsT w b v rows) (hn : rows.length = q) : OwnV w b 49 3 v q (rows.flatMap encT) := by
  subst hn; exact h
theorem clamp_max (x : Int) : max x 0 = clampV x := by unfold clampV; split <;> omega

def base18 (p g q cap : Nat) : List (Nat × Spec) := [(7, .val (.pointer (some ⟨p, 0, none⟩))), (11, .val (.slice (some ⟨g, 0, none⟩) (q + 1) cap)), (13, .val (.int .i64 q))]
def reg18A (p g q cap : Nat) (rl dp : Int) : List (Nat × Spec) := [(85, .val (.int .i64 q)), (86, .val (.bool false)), (87, .val (.bool false)), (100, .val (.bool false)), (101, .val (.bool false)), (102, .val (.slice (some ⟨g, 0, none⟩) (q + 1) cap)), (103, .val (.int .i64 q)), (104, .val (.pointer (some ⟨g, q * 3, none⟩))), (105, .val (.pointer (some ⟨g, q * 3 + 1, none⟩))), (106, .val (.int .i64 rl)), (107, .val (.pointer (some ⟨p, 0, none⟩))), (108, .val (.int .i64 dp)), (109, .val (.bool false)), (110, .val (.bool false))]
def reg18B (p g q cap q1 : Nat) (rl dp pl : Int) : List (Nat × Spec) := [(85, .val (.int .i64 q)), (86, .val (.bool true)), (87, .val (.bool true)), (88, .val (.slice (some ⟨g, 0, none⟩) (q + 1) cap)), (89, .val (.int .i64 q)), (90, .val (.pointer (some ⟨g, q * 3, none⟩))), (91, .val (.pointer (some ⟨g, q * 3 + 1, none⟩))), (92, .val (.int .i64 rl)), (93, .val (.slice (some ⟨g, 0, none⟩) (q + 1) cap)), (94, .val (.int .i64 q)), (95, .val (.int .i64 q1)), (96, .val (.pointer (some ⟨g, q1 * 3, none⟩))), (97, .val (.pointer (some ⟨g, q1 * 3 + 1, none⟩))), (98, .val (.int .i64 pl)), (99, .val (.bool false)), (100, .val (.bool false)), (101, .val (.bool false)), (102, .val (.slice (some ⟨g, 0, none⟩) (q + 1) cap)), (103, .val (.int .i64 q)), (104, .val (.pointer (some ⟨g, q * 3, none⟩))), (105, .val (.pointer (some ⟨g, q * 3 + 1, none⟩))), (106, .val (.int .i64 rl)), (107, .val (.pointer (some ⟨p, 0, none⟩))), (108, .val (.int .i64 dp)), (109, .val (.bool false)), (110, .val (.bool false))]

def b30A (p g q st0 R cap c6 cn : Nat) (ad ad2 : Addr) (v : Int) : List (Nat × Spec) := [(7, .val (.pointer (some ⟨p, 0, none⟩))), (10, .val (.slice (some ad) R c6)), (11, .val (.slice (some ⟨g, 0, none⟩) R cap)), (12, .val (.int .i64 st0)), (16, .val (.slice (some ad2) st0 cn)), (17, .val (.int .i64 q)), (18, .val (.int .i64 v))]
def b30B (q st0 : Nat) : List (Nat × Spec) := [(12, .val (.int .i64 st0)), (17, .val (.int .i64 q))]
def b32B (p q st0 R ng c6 cg : Nat) (ad ad3 : Addr) (v : Int) : List (Nat × Spec) := [(7, .val (.pointer (some ⟨p, 0, none⟩))), (10, .val (.slice (some ad) R c6)), (12, .val (.int .i64 st0)), (15, .val (.slice (some ad3) ng cg)), (17, .val (.int .i64 q)), (18, .val (.int .i64 v))]
def r30A (p g q st0 R cap c6 cn : Nat) (ad ad2 : Addr) (rl rv rr v : Int) : List (Nat × Spec) := [(162, .val (.int .i64 q)), (163, .val (.int .i64 st0)), (164, .val (.bool true)), (165, .val (.bool true)), (166, .val (.slice (some ad2) st0 cn)), (167, .val (.int .i64 q)), (168, .val (.pointer (some (ad2.add q)))), (169, .val (.int .i64 rl)), (170, .val (.slice (some ad) R c6)), (171, .val (.int .i64 q)), (172, .val (.pointer (some (ad.add q)))), (173, .val (.int .i64 rl)), (174, .val (.bool false)), (175, .val (.bool false)), (176, .val (.pointer (some ⟨p, 0, none⟩))), (177, .val (.int .i64 v)), (178, .val (.int .i64 rv)), (179, .val (.slice (some ⟨g, 0, none⟩) R cap)), (180, .val (.int .i64 q)), (181, .val (.pointer (some ⟨g, q * 3, none⟩))), (182, .val (.pointer (some ⟨g, q * 3 + 1, none⟩))), (183, .val (.int .i64 rv)), (184, .val (.bool false)), (185, .val (.bool false)), (186, .val (.bool false)), (187, .val (.pointer (some ⟨p, 0, none⟩))), (188, .val (.int .i64 v)), (189, .val (.int .i64 rr)), (190, .val (.slice (some ⟨g, 0, none⟩) R cap)), (191, .val (.int .i64 q)), (192, .val (.pointer (some ⟨g, q * 3, none⟩))), (193, .val (.pointer (some ⟨g, q * 3 + 2, none⟩))), (194, .val (.int .i64 rr)), (195, .val (.bool false)), (196, .val (.bool false)), (197, .val (.bool false)), (198, .val (.pointer (some ⟨p, 0, none⟩))), (199, .val (.int .i64 v)), (200, .val (.int .i64 q)), (201, .val (.int .i64 q)), (202, .val (.bool false)), (203, .val (.bool false)), (204, .val (.bool false))]
def r30B (q st0 : Nat) : List (Nat × Spec) := [(162, .val (.int .i64 q)), (163, .val (.int .i64 st0)), (164, .val (.bool false)), (165, .val (.bool false)), (175, .val (undef)), (186, .val (undef)), (197, .val (undef)), (204, .val (.bool false))]
def r32A (q st0 : Nat) : List (Nat × Spec) := [(205, .val (.int .i64 q)), (206, .val (.int .i64 st0)), (207, .val (.bool false)), (208, .val (.bool false)), (222, .val (undef)), (228, .val (.bool false))]
def r32B (p q st0 R ng jx c6 cg : Nat) (ad ad3 : Addr) (rl v : Int) : List (Nat × Spec) := [(205, .val (.int .i64 q)), (206, .val (.int .i64 st0)), (207, .val (.bool true)), (208, .val (.bool true)), (209, .val (.slice (some ad3) ng cg)), (210, .val (.slice (some ad) R c6)), (211, .val (.int .i64 R)), (212, .val (.int .i64 ((R : Int) - 1))), (213, .val (.int .i64 q)), (214, .val (.int .i64 jx)), (215, .val (.pointer (some (ad3.add jx)))), (216, .val (.int .i64 rl)), (217, .val (.slice (some ad) R c6)), (218, .val (.int .i64 q)), (219, .val (.pointer (some (ad.add q)))), (220, .val (.int .i64 rl)), (221, .val (.bool false)), (222, .val (.bool false)), (223, .val (.pointer (some ⟨p, 0, none⟩))), (224, .val (.int .i64 v)), (225, .val (.int .i64 0)), (226, .val (.bool false)), (227, .val (.bool false)), (228, .val (.bool false))]

theorem TrF.type {w : World} {base p gm : Nat} {lv bv : Value} {S : TSt} {N : Nat} (h : TrS w base p gm lv bv S N) {g : Nat} {t : TypeId} {cs : Array Value} (hg : Blk w g t cs) (h1 : 77 ≠ t) (h2 : 90 ≠ t) (h3 : 3 ≠ t) : ¬ TrF p gm lv bv g := by
  obtain ⟨bs, vars, _, hm, _⟩ := h.mem
  obtain ⟨cs', hgm, _⟩ := hm.mks
  rintro (rfl | rfl | hf | hf)
  · exact hm.blk.ne_ hg h1 rfl
  · exact hgm.ne_ hg h2 rfl
  · exact hm.lits.ne_blk hg h3 hf
  · exact hm.beg.ne_blk hg h3 hf
theorem RowsT.keep {w w' : World} {base p gm b : Nat} {lv bv : Value} {S : TSt} {N : Nat} (h : TrS w base p gm lv bv S N) {sv : Value} {rows : List TRow} (hr : RowsT w b sv rows) (hs : Stay (TrF p gm lv bv) w w') : RowsT w' b sv rows := by
  refine OwnV.stay hr hs fun k e => ?_
  rcases hr.2 with ⟨rfl, _⟩ | ⟨g, cap, cur, rfl, _, hgg, _⟩
  · cases e
  · have : g = k := Option.some.inj e
    subst this
    exact TrF.type h (t := 49) hgg (by decide) (by decide) (by decide)
theorem back_depth (S : TSt) (lv : Int) : (backT S lv).depth ≤ clampV lv := by
  unfold backT
  dsimp only
  split <;> omega

set_option maxRecDepth 100000 in
set_option maxHeartbeats 16000000 in
theorem lawTrailBack_c (vars : Int) (A : Option Addr) (n c : Nat) (l : List ActT) (level : Int) (w : World) (hv1 : -9223372036854775808 ≤ vars) (hv2 : vars ≤ 9223372036854775807) (h : ActsSl w A n l) (hw1 : -9223372036854775808 ≤ level) (hw2 : level ≤ 9223372036854775807) :
    Calls Try.prog 4 #[.int .i64 vars, .slice A n c, .int .i64 level] w fun e w' => e = .returned (.bool true) ∧ Ext w w' := by
  by_cases hb : vars < 0 ∨ 100000 < vars
  · have HB := Lib.hid hb
    clear hb
    by_cases h80 : 80 < n
    all_goals
      go_enter Try.func4, Try.ntmps4
      go_wp2_with fail
      refine (trNew_c vars _).mono ?_
      rintro e w' ⟨hnew, _⟩
      obtain ⟨rfl, rfl⟩ := hnew HB.out
      clear hnew
      go_wp2_with fail
      refine (law13awake_c _).mono ?_
      rintro e w2 ⟨rfl, hx2⟩
      go_wp2_with fail
      go_ret
      exact ⟨rfl, hx2⟩
  · have HB := Lib.hid hb
    clear hb
    by_cases h80 : 80 < n
    · go_enter Try.func4, Try.ntmps4
      go_wp2_with fail
      refine (trNew_c vars _).mono ?_
      rintro e w1 ⟨_, hnew⟩
      obtain ⟨p, gm, rfl, _, hx1⟩ := hnew HB.out
      clear hnew
      go_wp2_with fail
      refine (law13awake_c _).mono ?_
      rintro e w2 ⟨rfl, hx2⟩
      go_wp2_with fail
      go_ret
      exact ⟨rfl, hx1.trans hx2⟩
    · go_enter Try.func4, Try.ntmps4
      go_wp2_with fail
      refine (trNew_c vars _).mono ?_
      rintro e w1 ⟨_, hnew⟩
      obtain ⟨p, gm, rfl, hT1, hx1⟩ := hnew HB.out
      have HX1 := Lib.hid hx1
      have HT1 := Lib.hid hT1
      clear hnew hx1 hT1
      go_wp2_with fail
      go_loopw [9] (fun i wr => ∃ (k : Nat) (S : TSt) (lv bv : Value), k ≤ n ∧ i = .int .i64 k ∧ S.vars = vars ∧ TrS wr w.heap.size p gm lv bv S k ∧ Ext w wr) (fun i _ => n - (intOf i).toNat)
      case atStart => exact ⟨0, ⟨vars, [], 0⟩, _, _, Nat.zero_le _, rfl, rfl, HT1.out, HX1.out⟩
      case round =>
        obtain ⟨k, S, lv, bv, hk, rfl, hSv, hT, hX⟩ := hrel
        have HX := Lib.hid hX
        have HT := Lib.hid hT
        have HSV := Lib.hid hSv
        clear hX hT hSv
        by_cases hlt : k < n
        · obtain ⟨ad, a, rfl, ha, hok, c0, c1, c2⟩ := (h.ext HX.out).at_ hlt
          obtain ⟨⟨o1, o2⟩, ⟨o3, o4⟩, ⟨o5, o6⟩⟩ := hok
          go_wp2_with fail
          refine (do13_c _ _ p gm lv bv S k a HT.out (by omega) o3 o4 o6).mono ?_
          rintro e w3 ⟨vm, rfl, hom, lv3, bv3, hT3, hS3, hF3⟩
          have HX3 := Lib.hid (HT.out.ext_of HX.out (Nat.le_refl _) hS3)
          have HT3 := Lib.hid hT3
          clear hom hS3 hF3 hT3 c0 c1 c2
          go_wp2_with fail
          refine (trLitsS_c _ _ p gm lv3 bv3 (doS S a) (k + 1) HT3.out).mono ?_
          rintro e w4 ⟨v4, rfl, ho4, hx4⟩
          obtain ⟨A4, n4, c4, rfl, hs4, hc4⟩ := ho4.slc (by rw [litsT_len]; have := HT3.out.n; omega) (litsT_bd HT3.out.inv.lits)
          have has : assignV (litsT (doS S a).rows) vars = 0 := by
            have := HT3.out.inv.assign
            rw [doS_vars, HSV.out] at this
            exact this
          have HAS := Lib.hid has
          have HS4 := Lib.hid hs4
          have HX4 := Lib.hid hx4
          clear has hs4 hx4 ho4
          go_wp2_with fail
          refine (rACheck_c _ _ _ _ vars _ HS4.out hc4 hv1 hv2).mono ?_
          rintro e w5 ⟨rfl, hx5⟩
          rw [HAS.out]
          go_wp2_with fail
          go_roundw
          case rel => exact ⟨k + 1, doS S a, lv3, bv3, by omega, by go_num, by rw [doS_vars]; exact HSV.out, (HT3.out.ext HX4.out).ext hx5, HX3.out.trans (HX4.out.trans hx5)⟩
          case measure => simp [intOf]; omega
        · have hn80 : S.rows.length ≤ 80 := by have := HT.out.n; omega
          go_wp2_with fail
          refine (trLitsS_c _ _ p gm lv bv S k HT.out).mono ?_
          rintro e w6 ⟨v6, rfl, ho6, hx6⟩
          obtain ⟨A6, n6, c6, rfl, hs6, hc6⟩ := ho6.slc (by rw [litsT_len]; omega) (litsT_bd HT.out.inv.lits)
          obtain rfl : S.rows.length = n6 := by have := hs6.1; rw [litsT_len] at this; exact this
          have HT6 := Lib.hid (HT.out.ext hx6)
          have HX6 := Lib.hid (HX.out.trans hx6)
          have HS6 := Lib.hid hs6
          have HOW := Lib.hid ho6
          have hsep : ∀ b, TrF p gm lv bv b → ∀ k', (Value.slice A6 S.rows.length c6).ownBlock = some k' → k' ≠ b := fun b hb k' hk' e => by
            have h1 := (HT.out.lt hb).2
            have h2 := (HOW.out.blk k' hk').1
            omega
          have HSEP := Lib.hid hsep
          have hcl := clamp_max level
          obtain ⟨cl, hcl2⟩ : ∃ cl, clampV level = cl := ⟨_, rfl⟩
          have HCL := Lib.hid hcl
          have HCL2 := Lib.hid hcl2
          clear ho6 hx6 hs6 hcl hcl2 hsep
          go_wp2_with fail
          go_loopw [11, 12, 13] (fun mk st i wr => ∃ q : Nat, q ≤ S.rows.length ∧ i = .int .i64 q ∧ st = .int .i64 ((upTo (S.rows.take q) cl).length : Nat) ∧ RowsT wr w6.heap.size mk (S.rows.take q) ∧ Ext w6 wr) (fun _ _ i _ => S.rows.length - (intOf i).toNat)
          case atStart => exact ⟨0, Nat.zero_le _, rfl, rfl, World.ownsRow_nil _ _ _ _, Ext.refl _⟩
          case round =>
            obtain ⟨q, hq, rfl, rfl, ho, hxr⟩ := hrel
            have ho := RowsT.ofLen ho (q := q) (by rw [List.length_take]; omega)
            obtain ⟨Am, cm, rfl, hmc⟩ := OwnV.len ho
            have HO := Lib.hid ho
            have HXR := Lib.hid hxr
            clear ho hxr
            by_cases hlq : q < S.rows.length
            · obtain ⟨r, hr⟩ : ∃ r, S.rows[q]? = some r := ⟨S.rows[q], List.getElem?_eq_getElem hlq⟩
              obtain ⟨ad, x, rfl, hx, hcx, _, _⟩ := (HS6.out.ext HXR.out).at_ hlq
              obtain rfl : x = r.lit := by
                have := hx.out
                unfold litsT at this
                rw [List.getElem?_map, hr] at this
                exact (Option.some.inj this).symm
              have hrv := row_var HT6.out.inv (List.mem_of_getElem? hr)
              obtain ⟨hmx, b1, b2, b3, b4⟩ := hrv
              have HR := Lib.hid hr
              have hneg : IntKind.i64.wrap (-r.lit) = -r.lit := IntWalk.i64_in _ (by omega)
              have q0 : (0 : Int) ≤ (q : Int) := by omega
              have q1 : (q : Int) < (S.rows.length : Nat) := by omega
              have HMX := Lib.hid hmx
              have hlv := HT6.out.inv.nd.level hr
              obtain ⟨v, hv⟩ : ∃ v, varV r.lit = v := ⟨_, rfl⟩
              rw [hv] at b3 b4 hlv
              have HV := Lib.hid hv
              have HLV := Lib.hid hlv.1
              have HRV := Lib.hid hlv.2
              clear hx hr hmx hlv hv
              go_wp2_with fail
              go_quiet (fail)
              rw [HMX.out, HV.out]
              go_wp2_with fail
              go_cut [11] (fun mk wx => ∃ (A8 : Option Addr) (n8 c8 : Nat), mk = .slice A8 n8 c8 ∧ OwnV wx w6.heap.size 49 3 (.slice A8 n8 c8) (q + 1) ((S.rows.take q).flatMap encT ++ encT r) ∧ Ext w6 wx)
              case first =>
                generalize hw9 : wr.drewN nq = w9
                have hx9 : Ext wr w9 := by rw [← hw9]; exact (Ext.refl _).drewN _
                have hcx9 := hx9.cell hcx
                have HX9 := Lib.hid hx9
                clear hw9 hx9 hcx
                go_region_law
                  ((first
                    | (go_simp; (with_reducible refine (trLevelS_c _ _ p gm lv bv S k v (HT6.out.ext (HXR.out.trans (HX9.out.trans (show Ext w9 _ by (repeat (first | with_reducible exact Ext.refl _ | with_reducible apply Ext.alloc | with_reducible apply Ext.drew | with_reducible apply Ext.drewN | (apply Ext.trans'; assumption)))))))).mono ?_); rintro e w7 ⟨rfl, hx7⟩; rw [HLV.out]; have hcx7 := (show Ext w9 w7 by (repeat (first | with_reducible exact Ext.refl _ | with_reducible apply Ext.alloc | with_reducible apply Ext.drew | with_reducible apply Ext.drewN | (apply Ext.trans'; assumption)))).cell hcx9)
                    | (go_simp; (with_reducible refine (trReasonS_c _ _ p gm lv bv S k v (HT6.out.ext (HXR.out.trans (HX9.out.trans (show Ext w9 _ by (repeat (first | with_reducible exact Ext.refl _ | with_reducible apply Ext.alloc | with_reducible apply Ext.drew | with_reducible apply Ext.drewN | (apply Ext.trans'; assumption)))))))).mono ?_); rintro e w8 ⟨rfl, hx8⟩; rw [HRV.out]; have hcx8 := (show Ext w9 w8 by (repeat (first | with_reducible exact Ext.refl _ | with_reducible apply Ext.alloc | with_reducible apply Ext.drew | with_reducible apply Ext.drewN | (apply Ext.trans'; assumption)))).cell hcx9)
                    | (refine step_appendV eltT _ (by rfl) (.tmp 71) (.tmp 83) (by rfl) w6.heap.size _ q _ (by rfl) (OwnV.ext HO.out (HX9.out.trans (show Ext w9 _ by (repeat (first | with_reducible exact Ext.refl _ | with_reducible apply Ext.alloc | with_reducible apply Ext.drew | with_reducible apply Ext.drewN | (apply Ext.trans'; assumption)))))) _ _ _ (encT r) (by rfl) (by exact SlV.new1 _ _ _) (by intro u hu; simp [encT] at hu; rcases hu with rfl | rfl | rfl <;> rfl) (by omega) (by have := HXR.out.size_le; have := (HX9.out.trans (show Ext w9 w8 by (repeat (first | with_reducible exact Ext.refl _ | with_reducible apply Ext.alloc | with_reducible apply Ext.drew | with_reducible apply Ext.drewN | (apply Ext.trans'; assumption))))).size_le; simp; omega) ?_; intro A8 n8 c8 wa hoa hga hloc; have hxa : Ext w6 wa := Ext.grown (HXR.out.trans (HX9.out.trans (show Ext w9 _ by (repeat (first | with_reducible exact Ext.refl _ | with_reducible apply Ext.alloc | with_reducible apply Ext.drew | with_reducible apply Ext.drewN | (apply Ext.trans'; assumption)))))) hga (fun q hq => (OwnV.blk HO.out q hq).1); have HOA := Lib.hid hoa; have HXA := Lib.hid hxa; clear hoa hga hloc hxa)))
                all_goals
                  go_wp2_with fail
                  go_meet
                  exact ⟨A8, n8, c8, rfl, HOA.out, HXA.out⟩
              case rest =>
                obtain ⟨A8, n8, c8, rfl, hoa, hxa⟩ := hcut
                have hr := HR.out
                have htk : (S.rows.take q).flatMap encT ++ encT r = (S.rows.take (q + 1)).flatMap encT := by rw [take_succ_of hr, List.flatMap_append]; simp
                rw [htk] at hoa
                have hrt : RowsT wc w6.heap.size (.slice A8 n8 c8) (S.rows.take (q + 1)) := by
                  unfold RowsT
                  rw [List.length_take, Nat.min_eq_left (by omega)]
                  exact hoa
                obtain ⟨g, cap, rr, e8, hrr, hc0, hc1, hc2⟩ := RowsT.at_ hrt (k := q) (by rw [List.length_take]; omega)
                obtain rfl : r = rr := by
                  have := hrr.out
                  rw [List.getElem?_take_of_lt (by omega), hr] at this
                  exact Option.some.inj this
                rw [List.length_take, Nat.min_eq_left (by omega)] at e8
                injection e8 with e8 e9 e10
                subst e8 e9 e10
                have hlev := HT6.out.inv.lev0 r (List.mem_of_getElem? hr)
                have hsm : 0 ≤ S.depth ∧ S.depth ≤ 80 := by have := HT6.out.d; have := HT6.out.inv.d0; omega
                obtain ⟨l0, l1⟩ := hlev
                obtain ⟨s0, s1⟩ := hsm
                have d1 : decide (S.depth < r.level) = false := decide_eq_false (by omega)
                have HC1 := Lib.hid hc1
                have HRT := Lib.hid hrt
                have HX8 := Lib.hid hxa
                have HT8 := Lib.hid (HT6.out.ext hxa)
                clear hoa hxa htk hrr hrt hc0 hc1 hc2
                go_wp2_with fail
                go_cut [110] (fun s wx => s = .bool false ∧ Ext wc wx)
                case first =>
                 by_cases hq0 : q = 0
                 · have d0 : decide ((0 : Int) < (q : Int)) = false := decide_eq_false (by omega)
                   have HQ0 := Lib.hid hq0
                   have nb : ¬ ((q : Int) + 1 ≤ (q : Int)) := by omega
                   clear hq0
                   refine wp_region_invF (SpecS (base18 p g q c8) (reg18A p g q c8 r.level S.depth)) (by kernel_rfl) (by kernel_rfl) SpecS.ext (SpecS.start (by kernel_rfl) ?_) ?_ ?_
                   · exact lookup_all (by simp [base18, Spec.holds])
                   · simp only [List.forall_mem_cons]
                     repeat' apply And.intro
                     · refine rop_on [13] (by kernel_rfl) none (by kernel_rfl) (fun k b hk => by cases hk) (fun K a W hK hx hl => ?_)
                       have e13 : a.tmps.getD 13 undef = .int .i64 q := (hl 13 (by decide)).1 _ rfl
                       exact rop_val (v := .int .i64 q) (by go_simp) (hK _ _ (fun t ht => by cases ht; exact spec_new rfl rfl rfl) (Ext.refl _))
                     · refine rop_on [85] (by kernel_rfl) none (by kernel_rfl) (fun k b hk => by cases hk) (fun K a W hK hx hl => ?_)
                       have e85 : a.tmps.getD 85 undef = .int .i64 q := (hl 85 (by decide)).2 _ rfl
                       exact rop_val (v := .bool false) (by go_simp; exact HQ0.out) (hK _ _ (fun t ht => by cases ht; exact spec_new rfl rfl rfl) (Ext.refl _))
                     · refine rop_on [86] (by kernel_rfl) none (by kernel_rfl) (fun k b hk => by cases hk) (fun K a W hK hx hl => ?_)
                       have e86 : a.tmps.getD 86 undef = .bool false := (hl 86 (by decide)).2 _ rfl
                       exact rop_val (v := .bool false) (by go_simp) (hK _ _ (fun t ht => by cases ht; exact spec_new rfl rfl rfl) (Ext.refl _))
                     · refine rop_off 87 2 true rfl rfl (by kernel_rfl) (fun v w hS => by rw [hS.2 _ rfl]; exact fun h => by cases h) (fun t w ht => by cases ht; exact spec_none rfl rfl)
                     · refine rop_off 87 2 true rfl rfl (by kernel_rfl) (fun v w hS => by rw [hS.2 _ rfl]; exact fun h => by cases h) (fun t w ht => by cases ht; exact spec_none rfl rfl)
                     · refine rop_off 87 2 true rfl rfl (by kernel_rfl) (fun v w hS => by rw [hS.2 _ rfl]; exact fun h => by cases h) (fun t w ht => by cases ht; exact spec_none rfl rfl)
                     · refine rop_off 87 2 true rfl rfl (by kernel_rfl) (fun v w hS => by rw [hS.2 _ rfl]; exact fun h => by cases h) (fun t w ht => by cases ht; exact spec_none rfl rfl)
                     · refine rop_off 87 2 true rfl rfl (by kernel_rfl) (fun v w hS => by rw [hS.2 _ rfl]; exact fun h => by cases h) (fun t w ht => by cases ht; exact spec_none rfl rfl)
                     · refine rop_off 87 2 true rfl rfl (by kernel_rfl) (fun v w hS => by rw [hS.2 _ rfl]; exact fun h => by cases h) (fun t w ht => by cases ht; exact spec_none rfl rfl)
                     · refine rop_off 87 2 true rfl rfl (by kernel_rfl) (fun v w hS => by rw [hS.2 _ rfl]; exact fun h => by cases h) (fun t w ht => by cases ht; exact spec_none rfl rfl)
                     · refine rop_off 87 2 true rfl rfl (by kernel_rfl) (fun v w hS => by rw [hS.2 _ rfl]; exact fun h => by cases h) (fun t w ht => by cases ht; exact spec_none rfl rfl)
                     · refine rop_off 87 2 true rfl rfl (by kernel_rfl) (fun v w hS => by rw [hS.2 _ rfl]; exact fun h => by cases h) (fun t w ht => by cases ht; exact spec_none rfl rfl)
                     · refine rop_off 87 2 true rfl rfl (by kernel_rfl) (fun v w hS => by rw [hS.2 _ rfl]; exact fun h => by cases h) (fun t w ht => by cases ht; exact spec_none rfl rfl)
                     · refine rop_off 87 2 true rfl rfl (by kernel_rfl) (fun v w hS => by rw [hS.2 _ rfl]; exact fun h => by cases h) (fun t w ht => by cases ht; exact spec_none rfl rfl)
                     · refine rop_off 87 2 true rfl rfl (by kernel_rfl) (fun v w hS => by rw [hS.2 _ rfl]; exact fun h => by cases h) (fun t w ht => by cases ht; exact spec_none rfl rfl)
                     · refine rop_on [87, 99] (by kernel_rfl) none (by kernel_rfl) (fun k b hk => by cases hk) (fun K a W hK hx hl => ?_)
                       have e87 : a.tmps.getD 87 undef = .bool false := (hl 87 (by decide)).2 _ rfl
                       exact rop_val (v := .bool false) (by go_simp) (hK _ _ (fun t ht => by cases ht; exact spec_new rfl rfl rfl) (Ext.refl _))
                     · refine rop_on [100] (by kernel_rfl) none (by kernel_rfl) (fun k b hk => by cases hk) (fun K a W hK hx hl => ?_)
                       have e100 : a.tmps.getD 100 undef = .bool false := (hl 100 (by decide)).2 _ rfl
                       exact rop_val (v := .bool false) (by go_simp) (hK _ _ (fun t ht => by cases ht; exact spec_new rfl rfl rfl) (Ext.refl _))
                     · refine rop_on [11, 101] (by kernel_rfl) (some (101, false)) (by kernel_rfl) (fun k b hk v w hS => by cases hk; exact hS.2 _ rfl) (fun K a W hK hx hl => ?_)
                       have e11 : a.tmps.getD 11 undef = .slice (some ⟨g, 0, none⟩) (q + 1) c8 := (hl 11 (by decide)).1 _ rfl
                       exact rop_val (v := .slice (some ⟨g, 0, none⟩) (q + 1) c8) (by go_simp) (hK _ _ (fun t ht => by cases ht; exact spec_new rfl rfl rfl) (Ext.refl _))
                     · refine rop_on [13, 101] (by kernel_rfl) (some (101, false)) (by kernel_rfl) (fun k b hk v w hS => by cases hk; exact hS.2 _ rfl) (fun K a W hK hx hl => ?_)
                       have e13 : a.tmps.getD 13 undef = .int .i64 q := (hl 13 (by decide)).1 _ rfl
                       exact rop_val (v := .int .i64 q) (by go_simp) (hK _ _ (fun t ht => by cases ht; exact spec_new rfl rfl rfl) (Ext.refl _))
                     · refine rop_on [101, 102, 103] (by kernel_rfl) (some (101, false)) (by kernel_rfl) (fun k b hk v w hS => by cases hk; exact hS.2 _ rfl) (fun K a W hK hx hl => ?_)
                       have e102 : a.tmps.getD 102 undef = .slice (some ⟨g, 0, none⟩) (q + 1) c8 := (hl 102 (by decide)).2 _ rfl
                       have e103 : a.tmps.getD 103 undef = .int .i64 q := (hl 103 (by decide)).2 _ rfl
                       exact rop_val (v := .pointer (some ⟨g, q * 3, none⟩)) (by go_simp) (hK _ _ (fun t ht => by cases ht; exact spec_new rfl rfl rfl) (Ext.refl _))
                     · refine rop_on [101, 104] (by kernel_rfl) (some (101, false)) (by kernel_rfl) (fun k b hk v w hS => by cases hk; exact hS.2 _ rfl) (fun K a W hK hx hl => ?_)
                       have e104 : a.tmps.getD 104 undef = .pointer (some ⟨g, q * 3, none⟩) := (hl 104 (by decide)).2 _ rfl
                       exact rop_val (v := .pointer (some ⟨g, q * 3 + 1, none⟩)) (by go_simp) (hK _ _ (fun t ht => by cases ht; exact spec_new rfl rfl rfl) (Ext.refl _))
                     · refine rop_on [101, 105] (by kernel_rfl) (some (101, false)) (by kernel_rfl) (fun k b hk v w hS => by cases hk; exact hS.2 _ rfl) (fun K a W hK hx hl => ?_)
                       have e105 : a.tmps.getD 105 undef = .pointer (some ⟨g, q * 3 + 1, none⟩) := (hl 105 (by decide)).2 _ rfl
                       have z0 := hx.cell HC1.out
                       exact rop_val (v := .int .i64 r.level) (by go_simp) (hK _ _ (fun t ht => by cases ht; exact spec_new rfl rfl rfl) (Ext.refl _))
                     · refine rop_on [7, 101] (by kernel_rfl) (some (101, false)) (by kernel_rfl) (fun k b hk v w hS => by cases hk; exact hS.2 _ rfl) (fun K a W hK hx hl => ?_)
                       have e7 : a.tmps.getD 7 undef = .pointer (some ⟨p, 0, none⟩) := (hl 7 (by decide)).1 _ rfl
                       exact rop_val (v := .pointer (some ⟨p, 0, none⟩)) (by go_simp) (hK _ _ (fun t ht => by cases ht; exact spec_new rfl rfl rfl) (Ext.refl _))
                     · refine rop_on [101, 107] (by kernel_rfl) (some (101, false)) (by kernel_rfl) (fun k b hk v w hS => by cases hk; exact hS.2 _ rfl) (fun K a W hK hx hl => ?_)
                       have e107 : a.tmps.getD 107 undef = .pointer (some ⟨p, 0, none⟩) := (hl 107 (by decide)).2 _ rfl
                       unfold Oper.wp
                       rw [show (execOp a.eval _).run Try.prog W = .ok (.enter 19 #[.pointer (some ⟨p, 0, none⟩)]) W from by go_simp, Oper.upon_enter]
                       refine (trDepthS_c _ _ p gm lv bv S k (HT8.out.ext hx)).mono ?_
                       rintro e w1 ⟨rfl, hx1⟩
                       exact hK _ _ (fun t ht => by cases ht; exact spec_new rfl rfl rfl) hx1
                     · refine rop_on [101, 106, 108] (by kernel_rfl) (some (101, false)) (by kernel_rfl) (fun k b hk v w hS => by cases hk; exact hS.2 _ rfl) (fun K a W hK hx hl => ?_)
                       have e106 : a.tmps.getD 106 undef = .int .i64 r.level := (hl 106 (by decide)).2 _ rfl
                       have e108 : a.tmps.getD 108 undef = .int .i64 S.depth := (hl 108 (by decide)).2 _ rfl
                       exact rop_val (v := .bool false) (by go_simp) (hK _ _ (fun t ht => by cases ht; exact spec_new rfl rfl rfl) (Ext.refl _))
                     · refine rop_on [101, 109] (by kernel_rfl) none (by kernel_rfl) (fun k b hk => by cases hk) (fun K a W hK hx hl => ?_)
                       have e101 : a.tmps.getD 101 undef = .bool false := (hl 101 (by decide)).2 _ rfl
                       have e109 : a.tmps.getD 109 undef = .bool false := (hl 109 (by decide)).2 _ rfl
                       exact rop_val (v := .bool false) (by go_simp) (hK _ _ (fun t ht => by cases ht; exact spec_new rfl rfl rfl) (Ext.refl _))
                     · intro x hx; cases hx
                   · intro vf W hx hS
                     have h110 : vf 110 = .bool false := (hS 110 ⟨_, List.mem_of_getElem? (i := 25) rfl, rfl⟩).2 _ rfl
                     simp only [fill, List.foldl_cons, List.foldl_nil, List.setIfInBounds_toArray, List.set_cons_zero, List.set_cons_succ]
                     go_wp2_with fail
                     go_meet
                     exact ⟨rfl, hx⟩
                 · obtain ⟨j, rfl⟩ : ∃ j, q = j + 1 := ⟨q - 1, by omega⟩
                   have d0 : decide ((0 : Int) < ((j + 1 : Nat) : Int)) = true := decide_eq_true (by omega)
                   have nb : ¬ ((j : Int) + 1 ≤ (j : Int)) := by omega
                   have j0 : (0 : Int) ≤ (j : Int) + 1 := by omega
                   have hwj : IntKind.i64.wrap (j : Int) = (j : Int) := IntWalk.i64_in _ (by omega)
                   have nb2 : ¬ ((j : Int) + 1 + 1 ≤ (j : Int)) := by omega
                   have hw : IntKind.i64.wrap (((j + 1 : Nat) : Int) - 1) = (j : Int) := by rw [IntWalk.i64_in _ (by omega)]; omega
                   obtain ⟨g', c8', rp, e8, hrp, _, hcp, _⟩ := RowsT.at_ HRT.out (k := j) (by rw [List.length_take]; omega)
                   injection e8 with e8 e9 e10
                   injection e8 with e8
                   injection e8 with e8
                   subst e8
                   have hrp2 : S.rows[j]? = some rp := by
                     have := hrp.out
                     rwa [List.getElem?_take_of_lt (by omega)] at this
                   have hrise := rises HT6.out.inv hrp2 HR.out
                   have d2 : decide (r.level < rp.level) = false := decide_eq_false (by omega)
                   have HC2 := Lib.hid hcp
                   clear e9 e10 hrp hcp hrp2 hrise
                   refine wp_region_invF (SpecS (base18 p g (j + 1) c8) (reg18B p g (j + 1) c8 j r.level S.depth rp.level)) (by kernel_rfl) (by kernel_rfl) SpecS.ext (SpecS.start (by kernel_rfl) ?_) ?_ ?_
                   · exact lookup_all (by simp [base18, Spec.holds])
                   · simp only [List.forall_mem_cons]
                     repeat' apply And.intro
                     · refine rop_on [13] (by kernel_rfl) none (by kernel_rfl) (fun k b hk => by cases hk) (fun K a W hK hx hl => ?_)
                       have e13 : a.tmps.getD 13 undef = .int .i64 (j + 1 : Nat) := (hl 13 (by decide)).1 _ rfl
                       exact rop_val (v := .int .i64 (j + 1 : Nat)) (by go_simp) (hK _ _ (fun t ht => by cases ht; exact spec_new rfl rfl rfl) (Ext.refl _))
                     · refine rop_on [85] (by kernel_rfl) none (by kernel_rfl) (fun k b hk => by cases hk) (fun K a W hK hx hl => ?_)
                       have e85 : a.tmps.getD 85 undef = .int .i64 (j + 1 : Nat) := (hl 85 (by decide)).2 _ rfl
                       exact rop_val (v := .bool true) (by go_simp) (hK _ _ (fun t ht => by cases ht; exact spec_new rfl rfl rfl) (Ext.refl _))
                     · refine rop_on [86] (by kernel_rfl) none (by kernel_rfl) (fun k b hk => by cases hk) (fun K a W hK hx hl => ?_)
                       have e86 : a.tmps.getD 86 undef = .bool true := (hl 86 (by decide)).2 _ rfl
                       exact rop_val (v := .bool true) (by go_simp) (hK _ _ (fun t ht => by cases ht; exact spec_new rfl rfl rfl) (Ext.refl _))
                     · refine rop_on [11, 87] (by kernel_rfl) (some (87, true)) (by kernel_rfl) (fun k b hk v w hS => by cases hk; exact hS.2 _ rfl) (fun K a W hK hx hl => ?_)
                       have e11 : a.tmps.getD 11 undef = .slice (some ⟨g, 0, none⟩) (j + 1 + 1) c8 := (hl 11 (by decide)).1 _ rfl
                       exact rop_val (v := .slice (some ⟨g, 0, none⟩) (j + 1 + 1) c8) (by go_simp) (hK _ _ (fun t ht => by cases ht; exact spec_new rfl rfl rfl) (Ext.refl _))
                     · refine rop_on [13, 87] (by kernel_rfl) (some (87, true)) (by kernel_rfl) (fun k b hk v w hS => by cases hk; exact hS.2 _ rfl) (fun K a W hK hx hl => ?_)
                       have e13 : a.tmps.getD 13 undef = .int .i64 (j + 1 : Nat) := (hl 13 (by decide)).1 _ rfl
                       exact rop_val (v := .int .i64 (j + 1 : Nat)) (by go_simp) (hK _ _ (fun t ht => by cases ht; exact spec_new rfl rfl rfl) (Ext.refl _))
                     · refine rop_on [87, 88, 89] (by kernel_rfl) (some (87, true)) (by kernel_rfl) (fun k b hk v w hS => by cases hk; exact hS.2 _ rfl) (fun K a W hK hx hl => ?_)
                       have e88 : a.tmps.getD 88 undef = .slice (some ⟨g, 0, none⟩) (j + 1 + 1) c8 := (hl 88 (by decide)).2 _ rfl
                       have e89 : a.tmps.getD 89 undef = .int .i64 (j + 1 : Nat) := (hl 89 (by decide)).2 _ rfl
                       exact rop_val (v := .pointer (some ⟨g, (j + 1) * 3, none⟩)) (by go_simp) (hK _ _ (fun t ht => by cases ht; exact spec_new rfl rfl rfl) (Ext.refl _))
                     · refine rop_on [87, 90] (by kernel_rfl) (some (87, true)) (by kernel_rfl) (fun k b hk v w hS => by cases hk; exact hS.2 _ rfl) (fun K a W hK hx hl => ?_)
                       have e90 : a.tmps.getD 90 undef = .pointer (some ⟨g, (j + 1) * 3, none⟩) := (hl 90 (by decide)).2 _ rfl
                       exact rop_val (v := .pointer (some ⟨g, (j + 1) * 3 + 1, none⟩)) (by go_simp) (hK _ _ (fun t ht => by cases ht; exact spec_new rfl rfl rfl) (Ext.refl _))
                     · refine rop_on [87, 91] (by kernel_rfl) (some (87, true)) (by kernel_rfl) (fun k b hk v w hS => by cases hk; exact hS.2 _ rfl) (fun K a W hK hx hl => ?_)
                       have e91 : a.tmps.getD 91 undef = .pointer (some ⟨g, (j + 1) * 3 + 1, none⟩) := (hl 91 (by decide)).2 _ rfl
                       have z0 := hx.cell HC1.out
                       have z1 := hx.cell HC2.out
                       exact rop_val (v := .int .i64 r.level) (by go_simp) (hK _ _ (fun t ht => by cases ht; exact spec_new rfl rfl rfl) (Ext.refl _))
                     · refine rop_on [11, 87] (by kernel_rfl) (some (87, true)) (by kernel_rfl) (fun k b hk v w hS => by cases hk; exact hS.2 _ rfl) (fun K a W hK hx hl => ?_)
                       have e11 : a.tmps.getD 11 undef = .slice (some ⟨g, 0, none⟩) (j + 1 + 1) c8 := (hl 11 (by decide)).1 _ rfl
                       exact rop_val (v := .slice (some ⟨g, 0, none⟩) (j + 1 + 1) c8) (by go_simp) (hK _ _ (fun t ht => by cases ht; exact spec_new rfl rfl rfl) (Ext.refl _))
                     · refine rop_on [13, 87] (by kernel_rfl) (some (87, true)) (by kernel_rfl) (fun k b hk v w hS => by cases hk; exact hS.2 _ rfl) (fun K a W hK hx hl => ?_)
                       have e13 : a.tmps.getD 13 undef = .int .i64 (j + 1 : Nat) := (hl 13 (by decide)).1 _ rfl
                       exact rop_val (v := .int .i64 (j + 1 : Nat)) (by go_simp) (hK _ _ (fun t ht => by cases ht; exact spec_new rfl rfl rfl) (Ext.refl _))
                     · refine rop_on [87, 94] (by kernel_rfl) (some (87, true)) (by kernel_rfl) (fun k b hk v w hS => by cases hk; exact hS.2 _ rfl) (fun K a W hK hx hl => ?_)
                       have e94 : a.tmps.getD 94 undef = .int .i64 (j + 1 : Nat) := (hl 94 (by decide)).2 _ rfl
                       exact rop_val (v := .int .i64 j) (by go_simp) (hK _ _ (fun t ht => by cases ht; exact spec_new rfl rfl rfl) (Ext.refl _))
                     · refine rop_on [87, 93, 95] (by kernel_rfl) (some (87, true)) (by kernel_rfl) (fun k b hk v w hS => by cases hk; exact hS.2 _ rfl) (fun K a W hK hx hl => ?_)
                       have e93 : a.tmps.getD 93 undef = .slice (some ⟨g, 0, none⟩) (j + 1 + 1) c8 := (hl 93 (by decide)).2 _ rfl
                       have e95 : a.tmps.getD 95 undef = .int .i64 j := (hl 95 (by decide)).2 _ rfl
                       exact rop_val (v := .pointer (some ⟨g, j * 3, none⟩)) (by go_simp) (hK _ _ (fun t ht => by cases ht; exact spec_new rfl rfl rfl) (Ext.refl _))
                     · refine rop_on [87, 96] (by kernel_rfl) (some (87, true)) (by kernel_rfl) (fun k b hk v w hS => by cases hk; exact hS.2 _ rfl) (fun K a W hK hx hl => ?_)
                       have e96 : a.tmps.getD 96 undef = .pointer (some ⟨g, j * 3, none⟩) := (hl 96 (by decide)).2 _ rfl
                       exact rop_val (v := .pointer (some ⟨g, j * 3 + 1, none⟩)) (by go_simp) (hK _ _ (fun t ht => by cases ht; exact spec_new rfl rfl rfl) (Ext.refl _))
                     · refine rop_on [87, 97] (by kernel_rfl) (some (87, true)) (by kernel_rfl) (fun k b hk v w hS => by cases hk; exact hS.2 _ rfl) (fun K a W hK hx hl => ?_)
                       have e97 : a.tmps.getD 97 undef = .pointer (some ⟨g, j * 3 + 1, none⟩) := (hl 97 (by decide)).2 _ rfl
                       have z0 := hx.cell HC1.out
                       have z1 := hx.cell HC2.out
                       exact rop_val (v := .int .i64 rp.level) (by go_simp) (hK _ _ (fun t ht => by cases ht; exact spec_new rfl rfl rfl) (Ext.refl _))
                     · refine rop_on [87, 92, 98] (by kernel_rfl) (some (87, true)) (by kernel_rfl) (fun k b hk v w hS => by cases hk; exact hS.2 _ rfl) (fun K a W hK hx hl => ?_)
                       have e92 : a.tmps.getD 92 undef = .int .i64 r.level := (hl 92 (by decide)).2 _ rfl
                       have e98 : a.tmps.getD 98 undef = .int .i64 rp.level := (hl 98 (by decide)).2 _ rfl
                       exact rop_val (v := .bool false) (by go_simp) (hK _ _ (fun t ht => by cases ht; exact spec_new rfl rfl rfl) (Ext.refl _))
                     · refine rop_on [87, 99] (by kernel_rfl) none (by kernel_rfl) (fun k b hk => by cases hk) (fun K a W hK hx hl => ?_)
                       have e87 : a.tmps.getD 87 undef = .bool true := (hl 87 (by decide)).2 _ rfl
                       have e99 : a.tmps.getD 99 undef = .bool false := (hl 99 (by decide)).2 _ rfl
                       exact rop_val (v := .bool false) (by go_simp) (hK _ _ (fun t ht => by cases ht; exact spec_new rfl rfl rfl) (Ext.refl _))
                     · refine rop_on [100] (by kernel_rfl) none (by kernel_rfl) (fun k b hk => by cases hk) (fun K a W hK hx hl => ?_)
                       have e100 : a.tmps.getD 100 undef = .bool false := (hl 100 (by decide)).2 _ rfl
                       exact rop_val (v := .bool false) (by go_simp) (hK _ _ (fun t ht => by cases ht; exact spec_new rfl rfl rfl) (Ext.refl _))
                     · refine rop_on [11, 101] (by kernel_rfl) (some (101, false)) (by kernel_rfl) (fun k b hk v w hS => by cases hk; exact hS.2 _ rfl) (fun K a W hK hx hl => ?_)
                       have e11 : a.tmps.getD 11 undef = .slice (some ⟨g, 0, none⟩) (j + 1 + 1) c8 := (hl 11 (by decide)).1 _ rfl
                       exact rop_val (v := .slice (some ⟨g, 0, none⟩) (j + 1 + 1) c8) (by go_simp) (hK _ _ (fun t ht => by cases ht; exact spec_new rfl rfl rfl) (Ext.refl _))
                     · refine rop_on [13, 101] (by kernel_rfl) (some (101, false)) (by kernel_rfl) (fun k b hk v w hS => by cases hk; exact hS.2 _ rfl) (fun K a W hK hx hl => ?_)
                       have e13 : a.tmps.getD 13 undef = .int .i64 (j + 1 : Nat) := (hl 13 (by decide)).1 _ rfl
                       exact rop_val (v := .int .i64 (j + 1 : Nat)) (by go_simp) (hK _ _ (fun t ht => by cases ht; exact spec_new rfl rfl rfl) (Ext.refl _))
                     · refine rop_on [101, 102, 103] (by kernel_rfl) (some (101, false)) (by kernel_rfl) (fun k b hk v w hS => by cases hk; exact hS.2 _ rfl) (fun K a W hK hx hl => ?_)
                       have e102 : a.tmps.getD 102 undef = .slice (some ⟨g, 0, none⟩) (j + 1 + 1) c8 := (hl 102 (by decide)).2 _ rfl
                       have e103 : a.tmps.getD 103 undef = .int .i64 (j + 1 : Nat) := (hl 103 (by decide)).2 _ rfl
                       exact rop_val (v := .pointer (some ⟨g, (j + 1) * 3, none⟩)) (by go_simp) (hK _ _ (fun t ht => by cases ht; exact spec_new rfl rfl rfl) (Ext.refl _))
                     · refine rop_on [101, 104] (by kernel_rfl) (some (101, false)) (by kernel_rfl) (fun k b hk v w hS => by cases hk; exact hS.2 _ rfl) (fun K a W hK hx hl => ?_)
                       have e104 : a.tmps.getD 104 undef = .pointer (some ⟨g, (j + 1) * 3, none⟩) := (hl 104 (by decide)).2 _ rfl
                       exact rop_val (v := .pointer (some ⟨g, (j + 1) * 3 + 1, none⟩)) (by go_simp) (hK _ _ (fun t ht => by cases ht; exact spec_new rfl rfl rfl) (Ext.refl _))
                     · refine rop_on [101, 105] (by kernel_rfl) (some (101, false)) (by kernel_rfl) (fun k b hk v w hS => by cases hk; exact hS.2 _ rfl) (fun K a W hK hx hl => ?_)
                       have e105 : a.tmps.getD 105 undef = .pointer (some ⟨g, (j + 1) * 3 + 1, none⟩) := (hl 105 (by decide)).2 _ rfl
                       have z0 := hx.cell HC1.out
                       have z1 := hx.cell HC2.out
                       exact rop_val (v := .int .i64 r.level) (by go_simp) (hK _ _ (fun t ht => by cases ht; exact spec_new rfl rfl rfl) (Ext.refl _))
                     · refine rop_on [7, 101] (by kernel_rfl) (some (101, false)) (by kernel_rfl) (fun k b hk v w hS => by cases hk; exact hS.2 _ rfl) (fun K a W hK hx hl => ?_)
                       have e7 : a.tmps.getD 7 undef = .pointer (some ⟨p, 0, none⟩) := (hl 7 (by decide)).1 _ rfl
                       exact rop_val (v := .pointer (some ⟨p, 0, none⟩)) (by go_simp) (hK _ _ (fun t ht => by cases ht; exact spec_new rfl rfl rfl) (Ext.refl _))
                     · refine rop_on [101, 107] (by kernel_rfl) (some (101, false)) (by kernel_rfl) (fun k b hk v w hS => by cases hk; exact hS.2 _ rfl) (fun K a W hK hx hl => ?_)
                       have e107 : a.tmps.getD 107 undef = .pointer (some ⟨p, 0, none⟩) := (hl 107 (by decide)).2 _ rfl
                       unfold Oper.wp
                       rw [show (execOp a.eval _).run Try.prog W = .ok (.enter 19 #[.pointer (some ⟨p, 0, none⟩)]) W from by go_simp, Oper.upon_enter]
                       refine (trDepthS_c _ _ p gm lv bv S k (HT8.out.ext hx)).mono ?_
                       rintro e w1 ⟨rfl, hx1⟩
                       exact hK _ _ (fun t ht => by cases ht; exact spec_new rfl rfl rfl) hx1
                     · refine rop_on [101, 106, 108] (by kernel_rfl) (some (101, false)) (by kernel_rfl) (fun k b hk v w hS => by cases hk; exact hS.2 _ rfl) (fun K a W hK hx hl => ?_)
                       have e106 : a.tmps.getD 106 undef = .int .i64 r.level := (hl 106 (by decide)).2 _ rfl
                       have e108 : a.tmps.getD 108 undef = .int .i64 S.depth := (hl 108 (by decide)).2 _ rfl
                       exact rop_val (v := .bool false) (by go_simp) (hK _ _ (fun t ht => by cases ht; exact spec_new rfl rfl rfl) (Ext.refl _))
                     · refine rop_on [101, 109] (by kernel_rfl) none (by kernel_rfl) (fun k b hk => by cases hk) (fun K a W hK hx hl => ?_)
                       have e101 : a.tmps.getD 101 undef = .bool false := (hl 101 (by decide)).2 _ rfl
                       have e109 : a.tmps.getD 109 undef = .bool false := (hl 109 (by decide)).2 _ rfl
                       exact rop_val (v := .bool false) (by go_simp) (hK _ _ (fun t ht => by cases ht; exact spec_new rfl rfl rfl) (Ext.refl _))
                     · intro x hx; cases hx
                   · intro vf W hx hS
                     have h110 : vf 110 = .bool false := (hS 110 ⟨_, List.mem_of_getElem? (i := 25) rfl, rfl⟩).2 _ rfl
                     simp only [fill, List.foldl_cons, List.foldl_nil, List.setIfInBounds_toArray, List.set_cons_zero, List.set_cons_succ]
                     go_wp2_with fail
                     go_meet
                     exact ⟨rfl, hx⟩
                case rest =>
                  obtain ⟨rfl, hxb⟩ := hcut
                  have z1 := hxb.cell HC1.out
                  have hst : (upTo (S.rows.take (q + 1)) cl).length = (upTo (S.rows.take q) cl).length + if r.level ≤ cl then 1 else 0 := upTo_take HR.out
                  have hst0 : (upTo (S.rows.take q) cl).length ≤ 80 := by have h1 : (upTo (S.rows.take q) cl).length ≤ (S.rows.take q).length := List.length_filter_le _ _; have h2 := List.length_take_le q S.rows; omega
                  generalize (upTo (S.rows.take q) cl).length = st at hst hst0 ⊢
                  have hmaxl : (if level < 0 then (0 : Int) else level) = cl := HCL2.out
                  have nb : ¬ ((q : Int) + 1 ≤ (q : Int)) := by omega
                  have HST := Lib.hid hst
                  have HXB := Lib.hid hxb
                  clear hst hxb
                  by_cases hle : r.level ≤ cl
                  · go_wp2_with fail
                    go_roundw
                    case rel => exact ⟨q + 1, by omega, by go_num, by rw [HST.out, if_pos hle]; go_num, RowsT.ext HRT.out HXB.out, HX8.out.trans HXB.out⟩
                    case measure => simp [intOf]; omega
                  · go_wp2_with fail
                    go_roundw
                    case rel => exact ⟨q + 1, by omega, by go_num, by rw [HST.out, if_neg hle]; rfl, RowsT.ext HRT.out HXB.out, HX8.out.trans HXB.out⟩
                    case measure => simp [intOf]; omega
            · have hqe : q = S.rows.length := by omega
              have ho := HO.out
              have htk : S.rows.take q = S.rows := List.take_of_length_le (by omega)
              rw [htk] at ho ⊢
              have hrt : RowsT wr w6.heap.size (.slice Am q cm) S.rows := by rw [hqe] at ho ⊢; exact ho
              have HRT := Lib.hid hrt
              have hub : (upTo S.rows cl).length ≤ S.rows.length := List.length_filter_le _ _
              have hbl := beyond_len HT6.out.inv cl
              obtain ⟨st0, hst0⟩ : ∃ st0, (upTo S.rows cl).length = st0 := ⟨_, rfl⟩
              rw [hst0] at hub hbl ⊢
              have HST0 := Lib.hid hst0
              have HBL := Lib.hid hbl
              have HXW := Lib.hid (HX6.out.trans HXR.out)
              have HTW := Lib.hid (HT6.out.ext HXR.out)
              have HOWW := Lib.hid (HOW.out.ext HXR.out)
              have hmaxl : (if level < 0 then (0 : Int) else level) = cl := HCL2.out
              have HMAXL := Lib.hid hmaxl
              clear ho htk hrt hst0 hbl hmaxl
              go_wp2_with fail
              refine (trBackS_c _ _ p gm lv bv S k level HTW.out hw1 hw2).mono ?_
              rintro e w7 ⟨v7, rfl, ho7, lv', bv', hT7, hS7, _⟩
              have HX7 := Lib.hid (HTW.out.ext_of HXW.out (Nat.le_refl _) hS7)
              have HR7 := Lib.hid (RowsT.keep HTW.out HRT.out hS7)
              have HW7 := Lib.hid (OwnI.stay HOWW.out hS7 (fun k' e hf => HSEP.out _ hf _ e rfl))
              have HT7 := Lib.hid hT7
              have hbo : (backO S level).length = S.rows.length - st0 := by
                unfold backO
                rw [HCL2.out, List.length_reverse, litsT_len]
                have := HBL.out
                omega
              obtain ⟨A7, ng, cg, rfl, hs7, _⟩ := ho7.slc (by rw [hbo]; omega) (fun x hx => by
                unfold backO at hx
                rw [List.mem_reverse] at hx
                obtain ⟨r, hr, rfl⟩ := List.mem_map.1 hx
                have := row_var HTW.out.inv ((List.mem_filter.1 hr).1)
                omega)
              obtain rfl : S.rows.length - st0 = ng := by rw [← hbo]; exact hs7.1
              have HS7 := Lib.hid hs7
              clear ho7 hs7 hbo hT7 hS7
              go_wp2_with fail
              refine (trLitsS_c _ _ p gm lv' bv' (backT S level) (k + 1) HT7.out).mono ?_
              rintro e w8 ⟨v8, rfl, ho8, hx8⟩
              have hrows : (backT S level).rows = upTo S.rows cl := by unfold backT; rw [HCL2.out]
              obtain ⟨A8, n8, cn, rfl, hs8, _⟩ := ho8.slc (by rw [litsT_len, hrows]; have := HST0.out; omega) (litsT_bd HT7.out.inv.lits)
              rw [hrows] at hs8
              obtain rfl : st0 = n8 := by have := hs8.1; rw [litsT_len, HST0.out] at this; exact this
              have HS8 := Lib.hid hs8
              have HX8 := Lib.hid hx8
              have HROWS := Lib.hid hrows
              clear ho8 hx8 hs8 hrows
              have hsub : IntKind.i64.wrap ((S.rows.length : Int) - (st0 : Int)) = ((S.rows.length - st0 : Nat) : Int) := by rw [IntWalk.i64_in _ (by omega)]; omega
              have hdp := back_depth S level
              rw [HCL2.out] at hdp
              have hdd : decide (cl < (backT S level).depth) = false := decide_eq_false (by omega)
              have hmaxl := HMAXL.out
              clear hdp
              go_wp2_with fail
              refine (trDepthS_c _ _ p gm lv' bv' (backT S level) (k + 1) (HT7.out.ext HX8.out)).mono ?_
              rintro e w9 ⟨rfl, hx9⟩
              have HX79 := Lib.hid (HX8.out.trans hx9)
              have HX89 := Lib.hid hx9
              clear hx9
              go_wp2_with fail
              have HX9 := Lib.hid (HX7.out.trans HX79.out)
              have HTB9 := Lib.hid (HT7.out.ext HX79.out)
              have HW9 := Lib.hid (HW7.out.ext HX79.out)
              have HR9 := Lib.hid (RowsT.ext HR7.out HX79.out)
              have HG9 := Lib.hid (HS7.out.ext HX79.out)
              have HN9 := Lib.hid (HS8.out.ext HX89.out)
              clear hsub hdd hmaxl
              go_loopw [17] (fun i wr => ∃ q : Nat, q ≤ S.rows.length ∧ i = .int .i64 q ∧ Ext w9 wr) (fun i _ => S.rows.length - (intOf i).toNat)
              case atStart => exact ⟨0, Nat.zero_le _, rfl, Ext.refl _⟩
              case round =>
                obtain ⟨q, hq, rfl, hxq⟩ := hrel
                have HXQ := Lib.hid hxq
                clear hxq
                by_cases hlq : q < S.rows.length
                · obtain ⟨r, hr⟩ : ∃ r, S.rows[q]? = some r := ⟨S.rows[q], List.getElem?_eq_getElem hlq⟩
                  obtain ⟨Aw, nw, cw, ew, hsw⟩ := HW9.out.sl (by rw [litsT_len]; omega) (litsT_bd HTW.out.inv.lits)
                  injection ew with ew1 ew2 ew3
                  subst ew1 ew2 ew3
                  obtain ⟨ad, x, rfl, hx, hcx, _, _⟩ := (hsw.ext HXQ.out).at_ hlq
                  obtain rfl : x = r.lit := by
                    have := hx.out
                    unfold litsT at this
                    rw [List.getElem?_map, hr] at this
                    exact (Option.some.inj this).symm
                  have hrv := row_var HTW.out.inv (List.mem_of_getElem? hr)
                  obtain ⟨hmx, b1, b2, b3, b4⟩ := hrv
                  have hneg : IntKind.i64.wrap (-r.lit) = -r.lit := IntWalk.i64_in _ (by omega)
                  have q0 : (0 : Int) ≤ (q : Int) := by omega
                  have q1 : (q : Int) < (S.rows.length : Nat) := by omega
                  have hba := back_at HTW.out.inv cl hr
                  rw [HST0.out] at hba
                  have HMX := Lib.hid hmx
                  obtain ⟨v, hv⟩ : ∃ v, varV r.lit = v := ⟨_, rfl⟩
                  rw [hv] at b3 b4 hba
                  have HV := Lib.hid hv
                  have HR := Lib.hid hr
                  have HBA := Lib.hid hba
                  have HZ0 := Lib.hid hcx
                  clear hx hr hmx hv hba hsw
                  go_wp2_with fail
                  go_quiet (fail)
                  rw [HMX.out, HV.out]
                  go_wp2_with fail
                  generalize hw2 : wr.drewN nq = w2
                  have hx2 : Ext wr w2 := by rw [← hw2]; exact (Ext.refl _).drewN _
                  have HX2 := Lib.hid (HXQ.out.trans hx2)
                  have hcx2 := hx2.cell HZ0.out
                  have HTB := Lib.hid (HTB9.out.ext HX2.out)
                  clear hcx HZ0
                  have HZ0 := Lib.hid hcx2
                  clear hw2 hx2 hcx2
                  go_cut [204] (fun s wx => s = .bool false ∧ Ext w2 wx)
                  case first =>
                    by_cases hqs : q < st0
                    · obtain ⟨ad2, x2, rfl, hxx2, hc2, _, _⟩ := (HN9.out.ext HX2.out).at_ hqs
                      obtain ⟨g, cap, rr, e8, hrr, hm0, hm1, hm2⟩ := RowsT.at_ (RowsT.ext HR9.out HX2.out) (k := q) hlq
                      obtain rfl : r = rr := Option.some.inj (HR.out.symm.trans hrr.out)
                      injection e8 with e8 e9 e10
                      have hb := HBA.out.1 hqs
                      obtain rfl : x2 = r.lit := Option.some.inj (hxx2.out.symm.trans hb.2.1)
                      subst e8 e9 e10
                      have HL1 : Hid (levelV (backT S level).rows v = r.level) := by unfold Hid; rw [HROWS.out]; exact hb.2.2.1
                      have HL2 : Hid (reasonV (backT S level).rows v = r.reason) := by unfold Hid; rw [HROWS.out]; exact hb.2.2.2.1
                      have HL3 : Hid (placeV (backT S level).rows v = (q : Nat)) := by unfold Hid; rw [HROWS.out]; exact hb.2.2.2.2
                      have HZ1 := Lib.hid hm1
                      have HZ2 := Lib.hid hm2
                      have HZ3 := Lib.hid hc2
                      have d0 : decide ((q : Int) < (st0 : Int)) = true := decide_eq_true (by omega)
                      have nb : ¬ ((S.rows.length : Int) ≤ (q : Int)) := by omega
                      have nb2 : ¬ ((st0 : Int) ≤ (q : Int)) := by omega
                      have nb3 : (q : Int) < (st0 : Int) := by omega
                      clear hxx2 hrr hm0 hm1 hm2 hc2 hb
                      refine wp_region_invF (SpecS (b30A p g q st0 S.rows.length cm c6 cn ad ad2 v) (r30A p g q st0 S.rows.length cm c6 cn ad ad2 r.lit r.level r.reason v)) (by kernel_rfl) (by kernel_rfl) SpecS.ext (SpecS.start (by kernel_rfl) ?_) ?_ ?_
                      · exact lookup_all (by simp [b30A, Spec.holds])
                      · simp only [List.forall_mem_cons]
                        repeat' apply And.intro
                        · refine rop_on [17] (by kernel_rfl) none (by kernel_rfl) (fun k b hk => by cases hk) (fun K a W hK hx hl => ?_)
                          have e17 : a.tmps.getD 17 undef = .int .i64 q := (hl 17 (by decide)).1 _ rfl
                          exact rop_val (v := .int .i64 q) (by go_simp) (hK _ _ (fun t ht => by cases ht; exact spec_new rfl rfl rfl) (Ext.refl _))
                        · refine rop_on [12] (by kernel_rfl) none (by kernel_rfl) (fun k b hk => by cases hk) (fun K a W hK hx hl => ?_)
                          have e12 : a.tmps.getD 12 undef = .int .i64 st0 := (hl 12 (by decide)).1 _ rfl
                          exact rop_val (v := .int .i64 st0) (by go_simp) (hK _ _ (fun t ht => by cases ht; exact spec_new rfl rfl rfl) (Ext.refl _))
                        · refine rop_on [162, 163] (by kernel_rfl) none (by kernel_rfl) (fun k b hk => by cases hk) (fun K a W hK hx hl => ?_)
                          have e162 : a.tmps.getD 162 undef = .int .i64 q := (hl 162 (by decide)).2 _ rfl
                          have e163 : a.tmps.getD 163 undef = .int .i64 st0 := (hl 163 (by decide)).2 _ rfl
                          exact rop_val (v := .bool true) (by go_simp) (hK _ _ (fun t ht => by cases ht; exact spec_new rfl rfl rfl) (Ext.refl _))
                        · refine rop_on [164] (by kernel_rfl) none (by kernel_rfl) (fun k b hk => by cases hk) (fun K a W hK hx hl => ?_)
                          have e164 : a.tmps.getD 164 undef = .bool true := (hl 164 (by decide)).2 _ rfl
                          exact rop_val (v := .bool true) (by go_simp) (hK _ _ (fun t ht => by cases ht; exact spec_new rfl rfl rfl) (Ext.refl _))
                        · refine rop_on [16, 165] (by kernel_rfl) (some (165, true)) (by kernel_rfl) (fun k b hk v w hS => by cases hk; exact hS.2 _ rfl) (fun K a W hK hx hl => ?_)
                          have e16 : a.tmps.getD 16 undef = .slice (some ad2) st0 cn := (hl 16 (by decide)).1 _ rfl
                          exact rop_val (v := .slice (some ad2) st0 cn) (by go_simp) (hK _ _ (fun t ht => by cases ht; exact spec_new rfl rfl rfl) (Ext.refl _))
                        · refine rop_on [17, 165] (by kernel_rfl) (some (165, true)) (by kernel_rfl) (fun k b hk v w hS => by cases hk; exact hS.2 _ rfl) (fun K a W hK hx hl => ?_)
                          have e17 : a.tmps.getD 17 undef = .int .i64 q := (hl 17 (by decide)).1 _ rfl
                          exact rop_val (v := .int .i64 q) (by go_simp) (hK _ _ (fun t ht => by cases ht; exact spec_new rfl rfl rfl) (Ext.refl _))
                        · refine rop_on [165, 166, 167] (by kernel_rfl) (some (165, true)) (by kernel_rfl) (fun k b hk v w hS => by cases hk; exact hS.2 _ rfl) (fun K a W hK hx hl => ?_)
                          have e166 : a.tmps.getD 166 undef = .slice (some ad2) st0 cn := (hl 166 (by decide)).2 _ rfl
                          have e167 : a.tmps.getD 167 undef = .int .i64 q := (hl 167 (by decide)).2 _ rfl
                          exact rop_val (v := .pointer (some (ad2.add q))) (by go_simp) (hK _ _ (fun t ht => by cases ht; exact spec_new rfl rfl rfl) (Ext.refl _))
                        · refine rop_on [165, 168] (by kernel_rfl) (some (165, true)) (by kernel_rfl) (fun k b hk v w hS => by cases hk; exact hS.2 _ rfl) (fun K a W hK hx hl => ?_)
                          have e168 : a.tmps.getD 168 undef = .pointer (some (ad2.add q)) := (hl 168 (by decide)).2 _ rfl
                          have z0 := hx.cell HZ0.out
                          have z1 := hx.cell HZ1.out
                          have z2 := hx.cell HZ2.out
                          have z3 := hx.cell HZ3.out
                          exact rop_val (v := .int .i64 r.lit) (by go_simp) (hK _ _ (fun t ht => by cases ht; exact spec_new rfl rfl rfl) (Ext.refl _))
                        · refine rop_on [10, 165] (by kernel_rfl) (some (165, true)) (by kernel_rfl) (fun k b hk v w hS => by cases hk; exact hS.2 _ rfl) (fun K a W hK hx hl => ?_)
                          have e10 : a.tmps.getD 10 undef = .slice (some ad) S.rows.length c6 := (hl 10 (by decide)).1 _ rfl
                          exact rop_val (v := .slice (some ad) S.rows.length c6) (by go_simp) (hK _ _ (fun t ht => by cases ht; exact spec_new rfl rfl rfl) (Ext.refl _))
                        · refine rop_on [17, 165] (by kernel_rfl) (some (165, true)) (by kernel_rfl) (fun k b hk v w hS => by cases hk; exact hS.2 _ rfl) (fun K a W hK hx hl => ?_)
                          have e17 : a.tmps.getD 17 undef = .int .i64 q := (hl 17 (by decide)).1 _ rfl
                          exact rop_val (v := .int .i64 q) (by go_simp) (hK _ _ (fun t ht => by cases ht; exact spec_new rfl rfl rfl) (Ext.refl _))
                        · refine rop_on [165, 170, 171] (by kernel_rfl) (some (165, true)) (by kernel_rfl) (fun k b hk v w hS => by cases hk; exact hS.2 _ rfl) (fun K a W hK hx hl => ?_)
                          have e170 : a.tmps.getD 170 undef = .slice (some ad) S.rows.length c6 := (hl 170 (by decide)).2 _ rfl
                          have e171 : a.tmps.getD 171 undef = .int .i64 q := (hl 171 (by decide)).2 _ rfl
                          exact rop_val (v := .pointer (some (ad.add q))) (by go_simp) (hK _ _ (fun t ht => by cases ht; exact spec_new rfl rfl rfl) (Ext.refl _))
                        · refine rop_on [165, 172] (by kernel_rfl) (some (165, true)) (by kernel_rfl) (fun k b hk v w hS => by cases hk; exact hS.2 _ rfl) (fun K a W hK hx hl => ?_)
                          have e172 : a.tmps.getD 172 undef = .pointer (some (ad.add q)) := (hl 172 (by decide)).2 _ rfl
                          have z0 := hx.cell HZ0.out
                          have z1 := hx.cell HZ1.out
                          have z2 := hx.cell HZ2.out
                          have z3 := hx.cell HZ3.out
                          exact rop_val (v := .int .i64 r.lit) (by go_simp) (hK _ _ (fun t ht => by cases ht; exact spec_new rfl rfl rfl) (Ext.refl _))
                        · refine rop_on [165, 169, 173] (by kernel_rfl) (some (165, true)) (by kernel_rfl) (fun k b hk v w hS => by cases hk; exact hS.2 _ rfl) (fun K a W hK hx hl => ?_)
                          have e169 : a.tmps.getD 169 undef = .int .i64 r.lit := (hl 169 (by decide)).2 _ rfl
                          have e173 : a.tmps.getD 173 undef = .int .i64 r.lit := (hl 173 (by decide)).2 _ rfl
                          exact rop_val (v := .bool false) (by go_simp) (hK _ _ (fun t ht => by cases ht; exact spec_new rfl rfl rfl) (Ext.refl _))
                        · refine rop_on [165, 174] (by kernel_rfl) (some (165, true)) (by kernel_rfl) (fun k b hk v w hS => by cases hk; exact hS.2 _ rfl) (fun K a W hK hx hl => ?_)
                          have e174 : a.tmps.getD 174 undef = .bool false := (hl 174 (by decide)).2 _ rfl
                          exact rop_val (v := .bool false) (by go_simp) (hK _ _ (fun t ht => by cases ht; exact spec_new rfl rfl rfl) (Ext.refl _))
                        · refine rop_on [7, 175] (by kernel_rfl) (some (175, false)) (by kernel_rfl) (fun k b hk v w hS => by cases hk; exact hS.2 _ rfl) (fun K a W hK hx hl => ?_)
                          have e7 : a.tmps.getD 7 undef = .pointer (some ⟨p, 0, none⟩) := (hl 7 (by decide)).1 _ rfl
                          exact rop_val (v := .pointer (some ⟨p, 0, none⟩)) (by go_simp) (hK _ _ (fun t ht => by cases ht; exact spec_new rfl rfl rfl) (Ext.refl _))
                        · refine rop_on [18, 175] (by kernel_rfl) (some (175, false)) (by kernel_rfl) (fun k b hk v w hS => by cases hk; exact hS.2 _ rfl) (fun K a W hK hx hl => ?_)
                          have e18 : a.tmps.getD 18 undef = .int .i64 v := (hl 18 (by decide)).1 _ rfl
                          exact rop_val (v := .int .i64 v) (by go_simp) (hK _ _ (fun t ht => by cases ht; exact spec_new rfl rfl rfl) (Ext.refl _))
                        · refine rop_on [175, 176, 177] (by kernel_rfl) (some (175, false)) (by kernel_rfl) (fun k b hk v w hS => by cases hk; exact hS.2 _ rfl) (fun K a W hK hx hl => ?_)
                          have e176 : a.tmps.getD 176 undef = .pointer (some ⟨p, 0, none⟩) := (hl 176 (by decide)).2 _ rfl
                          have e177 : a.tmps.getD 177 undef = .int .i64 v := (hl 177 (by decide)).2 _ rfl
                          unfold Oper.wp
                          rw [show (execOp a.eval _).run Try.prog W = .ok (.enter 17 #[.pointer (some ⟨p, 0, none⟩), .int .i64 v]) W from by go_simp, Oper.upon_enter]
                          refine (trLevelS_c _ _ p gm lv' bv' (backT S level) (k + 1) v (HTB.out.ext hx)).mono ?_
                          rintro e w1 ⟨rfl, hx1⟩
                          rw [HL1.out]
                          exact hK _ _ (fun t ht => by cases ht; exact spec_new rfl rfl rfl) hx1
                        · refine rop_on [11, 175] (by kernel_rfl) (some (175, false)) (by kernel_rfl) (fun k b hk v w hS => by cases hk; exact hS.2 _ rfl) (fun K a W hK hx hl => ?_)
                          have e11 : a.tmps.getD 11 undef = .slice (some ⟨g, 0, none⟩) S.rows.length cm := (hl 11 (by decide)).1 _ rfl
                          exact rop_val (v := .slice (some ⟨g, 0, none⟩) S.rows.length cm) (by go_simp) (hK _ _ (fun t ht => by cases ht; exact spec_new rfl rfl rfl) (Ext.refl _))
                        · refine rop_on [17, 175] (by kernel_rfl) (some (175, false)) (by kernel_rfl) (fun k b hk v w hS => by cases hk; exact hS.2 _ rfl) (fun K a W hK hx hl => ?_)
                          have e17 : a.tmps.getD 17 undef = .int .i64 q := (hl 17 (by decide)).1 _ rfl
                          exact rop_val (v := .int .i64 q) (by go_simp) (hK _ _ (fun t ht => by cases ht; exact spec_new rfl rfl rfl) (Ext.refl _))
                        · refine rop_on [175, 179, 180] (by kernel_rfl) (some (175, false)) (by kernel_rfl) (fun k b hk v w hS => by cases hk; exact hS.2 _ rfl) (fun K a W hK hx hl => ?_)
                          have e179 : a.tmps.getD 179 undef = .slice (some ⟨g, 0, none⟩) S.rows.length cm := (hl 179 (by decide)).2 _ rfl
                          have e180 : a.tmps.getD 180 undef = .int .i64 q := (hl 180 (by decide)).2 _ rfl
                          exact rop_val (v := .pointer (some ⟨g, q * 3, none⟩)) (by go_simp) (hK _ _ (fun t ht => by cases ht; exact spec_new rfl rfl rfl) (Ext.refl _))
                        · refine rop_on [175, 181] (by kernel_rfl) (some (175, false)) (by kernel_rfl) (fun k b hk v w hS => by cases hk; exact hS.2 _ rfl) (fun K a W hK hx hl => ?_)
                          have e181 : a.tmps.getD 181 undef = .pointer (some ⟨g, q * 3, none⟩) := (hl 181 (by decide)).2 _ rfl
                          exact rop_val (v := .pointer (some ⟨g, q * 3 + 1, none⟩)) (by go_simp) (hK _ _ (fun t ht => by cases ht; exact spec_new rfl rfl rfl) (Ext.refl _))
                        · refine rop_on [175, 182] (by kernel_rfl) (some (175, false)) (by kernel_rfl) (fun k b hk v w hS => by cases hk; exact hS.2 _ rfl) (fun K a W hK hx hl => ?_)
                          have e182 : a.tmps.getD 182 undef = .pointer (some ⟨g, q * 3 + 1, none⟩) := (hl 182 (by decide)).2 _ rfl
                          have z0 := hx.cell HZ0.out
                          have z1 := hx.cell HZ1.out
                          have z2 := hx.cell HZ2.out
                          have z3 := hx.cell HZ3.out
                          exact rop_val (v := .int .i64 r.level) (by go_simp) (hK _ _ (fun t ht => by cases ht; exact spec_new rfl rfl rfl) (Ext.refl _))
                        · refine rop_on [175, 178, 183] (by kernel_rfl) (some (175, false)) (by kernel_rfl) (fun k b hk v w hS => by cases hk; exact hS.2 _ rfl) (fun K a W hK hx hl => ?_)
                          have e178 : a.tmps.getD 178 undef = .int .i64 r.level := (hl 178 (by decide)).2 _ rfl
                          have e183 : a.tmps.getD 183 undef = .int .i64 r.level := (hl 183 (by decide)).2 _ rfl
                          exact rop_val (v := .bool false) (by go_simp) (hK _ _ (fun t ht => by cases ht; exact spec_new rfl rfl rfl) (Ext.refl _))
                        · refine rop_on [165, 175, 184] (by kernel_rfl) (some (165, true)) (by kernel_rfl) (fun k b hk v w hS => by cases hk; exact hS.2 _ rfl) (fun K a W hK hx hl => ?_)
                          have e175 : a.tmps.getD 175 undef = .bool false := (hl 175 (by decide)).2 _ rfl
                          have e184 : a.tmps.getD 184 undef = .bool false := (hl 184 (by decide)).2 _ rfl
                          exact rop_val (v := .bool false) (by go_simp) (hK _ _ (fun t ht => by cases ht; exact spec_new rfl rfl rfl) (Ext.refl _))
                        · refine rop_on [165, 185] (by kernel_rfl) (some (165, true)) (by kernel_rfl) (fun k b hk v w hS => by cases hk; exact hS.2 _ rfl) (fun K a W hK hx hl => ?_)
                          have e185 : a.tmps.getD 185 undef = .bool false := (hl 185 (by decide)).2 _ rfl
                          exact rop_val (v := .bool false) (by go_simp) (hK _ _ (fun t ht => by cases ht; exact spec_new rfl rfl rfl) (Ext.refl _))
                        · refine rop_on [7, 186] (by kernel_rfl) (some (186, false)) (by kernel_rfl) (fun k b hk v w hS => by cases hk; exact hS.2 _ rfl) (fun K a W hK hx hl => ?_)
                          have e7 : a.tmps.getD 7 undef = .pointer (some ⟨p, 0, none⟩) := (hl 7 (by decide)).1 _ rfl
                          exact rop_val (v := .pointer (some ⟨p, 0, none⟩)) (by go_simp) (hK _ _ (fun t ht => by cases ht; exact spec_new rfl rfl rfl) (Ext.refl _))
                        · refine rop_on [18, 186] (by kernel_rfl) (some (186, false)) (by kernel_rfl) (fun k b hk v w hS => by cases hk; exact hS.2 _ rfl) (fun K a W hK hx hl => ?_)
                          have e18 : a.tmps.getD 18 undef = .int .i64 v := (hl 18 (by decide)).1 _ rfl
                          exact rop_val (v := .int .i64 v) (by go_simp) (hK _ _ (fun t ht => by cases ht; exact spec_new rfl rfl rfl) (Ext.refl _))
                        · refine rop_on [186, 187, 188] (by kernel_rfl) (some (186, false)) (by kernel_rfl) (fun k b hk v w hS => by cases hk; exact hS.2 _ rfl) (fun K a W hK hx hl => ?_)
                          have e187 : a.tmps.getD 187 undef = .pointer (some ⟨p, 0, none⟩) := (hl 187 (by decide)).2 _ rfl
                          have e188 : a.tmps.getD 188 undef = .int .i64 v := (hl 188 (by decide)).2 _ rfl
                          unfold Oper.wp
                          rw [show (execOp a.eval _).run Try.prog W = .ok (.enter 18 #[.pointer (some ⟨p, 0, none⟩), .int .i64 v]) W from by go_simp, Oper.upon_enter]
                          refine (trReasonS_c _ _ p gm lv' bv' (backT S level) (k + 1) v (HTB.out.ext hx)).mono ?_
                          rintro e w1 ⟨rfl, hx1⟩
                          rw [HL2.out]
                          exact hK _ _ (fun t ht => by cases ht; exact spec_new rfl rfl rfl) hx1
                        · refine rop_on [11, 186] (by kernel_rfl) (some (186, false)) (by kernel_rfl) (fun k b hk v w hS => by cases hk; exact hS.2 _ rfl) (fun K a W hK hx hl => ?_)
                          have e11 : a.tmps.getD 11 undef = .slice (some ⟨g, 0, none⟩) S.rows.length cm := (hl 11 (by decide)).1 _ rfl
                          exact rop_val (v := .slice (some ⟨g, 0, none⟩) S.rows.length cm) (by go_simp) (hK _ _ (fun t ht => by cases ht; exact spec_new rfl rfl rfl) (Ext.refl _))
                        · refine rop_on [17, 186] (by kernel_rfl) (some (186, false)) (by kernel_rfl) (fun k b hk v w hS => by cases hk; exact hS.2 _ rfl) (fun K a W hK hx hl => ?_)
                          have e17 : a.tmps.getD 17 undef = .int .i64 q := (hl 17 (by decide)).1 _ rfl
                          exact rop_val (v := .int .i64 q) (by go_simp) (hK _ _ (fun t ht => by cases ht; exact spec_new rfl rfl rfl) (Ext.refl _))
                        · refine rop_on [186, 190, 191] (by kernel_rfl) (some (186, false)) (by kernel_rfl) (fun k b hk v w hS => by cases hk; exact hS.2 _ rfl) (fun K a W hK hx hl => ?_)
                          have e190 : a.tmps.getD 190 undef = .slice (some ⟨g, 0, none⟩) S.rows.length cm := (hl 190 (by decide)).2 _ rfl
                          have e191 : a.tmps.getD 191 undef = .int .i64 q := (hl 191 (by decide)).2 _ rfl
                          exact rop_val (v := .pointer (some ⟨g, q * 3, none⟩)) (by go_simp) (hK _ _ (fun t ht => by cases ht; exact spec_new rfl rfl rfl) (Ext.refl _))
                        · refine rop_on [186, 192] (by kernel_rfl) (some (186, false)) (by kernel_rfl) (fun k b hk v w hS => by cases hk; exact hS.2 _ rfl) (fun K a W hK hx hl => ?_)
                          have e192 : a.tmps.getD 192 undef = .pointer (some ⟨g, q * 3, none⟩) := (hl 192 (by decide)).2 _ rfl
                          exact rop_val (v := .pointer (some ⟨g, q * 3 + 2, none⟩)) (by go_simp) (hK _ _ (fun t ht => by cases ht; exact spec_new rfl rfl rfl) (Ext.refl _))
                        · refine rop_on [186, 193] (by kernel_rfl) (some (186, false)) (by kernel_rfl) (fun k b hk v w hS => by cases hk; exact hS.2 _ rfl) (fun K a W hK hx hl => ?_)
                          have e193 : a.tmps.getD 193 undef = .pointer (some ⟨g, q * 3 + 2, none⟩) := (hl 193 (by decide)).2 _ rfl
                          have z0 := hx.cell HZ0.out
                          have z1 := hx.cell HZ1.out
                          have z2 := hx.cell HZ2.out
                          have z3 := hx.cell HZ3.out
                          exact rop_val (v := .int .i64 r.reason) (by go_simp) (hK _ _ (fun t ht => by cases ht; exact spec_new rfl rfl rfl) (Ext.refl _))
                        · refine rop_on [186, 189, 194] (by kernel_rfl) (some (186, false)) (by kernel_rfl) (fun k b hk v w hS => by cases hk; exact hS.2 _ rfl) (fun K a W hK hx hl => ?_)
                          have e189 : a.tmps.getD 189 undef = .int .i64 r.reason := (hl 189 (by decide)).2 _ rfl
                          have e194 : a.tmps.getD 194 undef = .int .i64 r.reason := (hl 194 (by decide)).2 _ rfl
                          exact rop_val (v := .bool false) (by go_simp) (hK _ _ (fun t ht => by cases ht; exact spec_new rfl rfl rfl) (Ext.refl _))
                        · refine rop_on [165, 186, 195] (by kernel_rfl) (some (165, true)) (by kernel_rfl) (fun k b hk v w hS => by cases hk; exact hS.2 _ rfl) (fun K a W hK hx hl => ?_)
                          have e186 : a.tmps.getD 186 undef = .bool false := (hl 186 (by decide)).2 _ rfl
                          have e195 : a.tmps.getD 195 undef = .bool false := (hl 195 (by decide)).2 _ rfl
                          exact rop_val (v := .bool false) (by go_simp) (hK _ _ (fun t ht => by cases ht; exact spec_new rfl rfl rfl) (Ext.refl _))
                        · refine rop_on [165, 196] (by kernel_rfl) (some (165, true)) (by kernel_rfl) (fun k b hk v w hS => by cases hk; exact hS.2 _ rfl) (fun K a W hK hx hl => ?_)
                          have e196 : a.tmps.getD 196 undef = .bool false := (hl 196 (by decide)).2 _ rfl
                          exact rop_val (v := .bool false) (by go_simp) (hK _ _ (fun t ht => by cases ht; exact spec_new rfl rfl rfl) (Ext.refl _))
                        · refine rop_on [7, 197] (by kernel_rfl) (some (197, false)) (by kernel_rfl) (fun k b hk v w hS => by cases hk; exact hS.2 _ rfl) (fun K a W hK hx hl => ?_)
                          have e7 : a.tmps.getD 7 undef = .pointer (some ⟨p, 0, none⟩) := (hl 7 (by decide)).1 _ rfl
                          exact rop_val (v := .pointer (some ⟨p, 0, none⟩)) (by go_simp) (hK _ _ (fun t ht => by cases ht; exact spec_new rfl rfl rfl) (Ext.refl _))
                        · refine rop_on [18, 197] (by kernel_rfl) (some (197, false)) (by kernel_rfl) (fun k b hk v w hS => by cases hk; exact hS.2 _ rfl) (fun K a W hK hx hl => ?_)
                          have e18 : a.tmps.getD 18 undef = .int .i64 v := (hl 18 (by decide)).1 _ rfl
                          exact rop_val (v := .int .i64 v) (by go_simp) (hK _ _ (fun t ht => by cases ht; exact spec_new rfl rfl rfl) (Ext.refl _))
                        · refine rop_on [197, 198, 199] (by kernel_rfl) (some (197, false)) (by kernel_rfl) (fun k b hk v w hS => by cases hk; exact hS.2 _ rfl) (fun K a W hK hx hl => ?_)
                          have e198 : a.tmps.getD 198 undef = .pointer (some ⟨p, 0, none⟩) := (hl 198 (by decide)).2 _ rfl
                          have e199 : a.tmps.getD 199 undef = .int .i64 v := (hl 199 (by decide)).2 _ rfl
                          unfold Oper.wp
                          rw [show (execOp a.eval _).run Try.prog W = .ok (.enter 21 #[.pointer (some ⟨p, 0, none⟩), .int .i64 v]) W from by go_simp, Oper.upon_enter]
                          refine (trPlaceS_c _ _ p gm lv' bv' (backT S level) (k + 1) v (HTB.out.ext hx)).mono ?_
                          rintro e w1 ⟨rfl, hx1⟩
                          rw [HL3.out]
                          exact hK _ _ (fun t ht => by cases ht; exact spec_new rfl rfl rfl) hx1
                        · refine rop_on [17, 197] (by kernel_rfl) (some (197, false)) (by kernel_rfl) (fun k b hk v w hS => by cases hk; exact hS.2 _ rfl) (fun K a W hK hx hl => ?_)
                          have e17 : a.tmps.getD 17 undef = .int .i64 q := (hl 17 (by decide)).1 _ rfl
                          exact rop_val (v := .int .i64 q) (by go_simp) (hK _ _ (fun t ht => by cases ht; exact spec_new rfl rfl rfl) (Ext.refl _))
                        · refine rop_on [197, 200, 201] (by kernel_rfl) (some (197, false)) (by kernel_rfl) (fun k b hk v w hS => by cases hk; exact hS.2 _ rfl) (fun K a W hK hx hl => ?_)
                          have e200 : a.tmps.getD 200 undef = .int .i64 q := (hl 200 (by decide)).2 _ rfl
                          have e201 : a.tmps.getD 201 undef = .int .i64 q := (hl 201 (by decide)).2 _ rfl
                          exact rop_val (v := .bool false) (by go_simp) (hK _ _ (fun t ht => by cases ht; exact spec_new rfl rfl rfl) (Ext.refl _))
                        · refine rop_on [165, 197, 202] (by kernel_rfl) (some (165, true)) (by kernel_rfl) (fun k b hk v w hS => by cases hk; exact hS.2 _ rfl) (fun K a W hK hx hl => ?_)
                          have e197 : a.tmps.getD 197 undef = .bool false := (hl 197 (by decide)).2 _ rfl
                          have e202 : a.tmps.getD 202 undef = .bool false := (hl 202 (by decide)).2 _ rfl
                          exact rop_val (v := .bool false) (by go_simp) (hK _ _ (fun t ht => by cases ht; exact spec_new rfl rfl rfl) (Ext.refl _))
                        · refine rop_on [165, 203] (by kernel_rfl) none (by kernel_rfl) (fun k b hk => by cases hk) (fun K a W hK hx hl => ?_)
                          have e165 : a.tmps.getD 165 undef = .bool true := (hl 165 (by decide)).2 _ rfl
                          have e203 : a.tmps.getD 203 undef = .bool false := (hl 203 (by decide)).2 _ rfl
                          exact rop_val (v := .bool false) (by go_simp) (hK _ _ (fun t ht => by cases ht; exact spec_new rfl rfl rfl) (Ext.refl _))
                        · intro x hx; cases hx
                      · intro vf W hx hS
                        have hend : vf 204 = .bool false := (hS 204 ⟨_, List.mem_of_getElem? (i := 42) rfl, rfl⟩).2 _ rfl
                        simp only [fill, List.foldl_cons, List.foldl_nil, List.setIfInBounds_toArray, List.set_cons_zero, List.set_cons_succ]
                        go_wp2_with fail
                        go_meet
                        exact ⟨rfl, hx⟩
                    · have d0 : decide ((q : Int) < (st0 : Int)) = false := decide_eq_false (by omega)
                      have nb3 : ¬ ((q : Int) < (st0 : Int)) := by omega
                      refine wp_region_invF (SpecS (b30B q st0) (r30B q st0)) (by kernel_rfl) (by kernel_rfl) SpecS.ext (SpecS.start (by kernel_rfl) ?_) ?_ ?_
                      · exact lookup_all (by simp [b30B, Spec.holds])
                      · simp only [List.forall_mem_cons]
                        repeat' apply And.intro
                        · refine rop_on [17] (by kernel_rfl) none (by kernel_rfl) (fun k b hk => by cases hk) (fun K a W hK hx hl => ?_)
                          have e17 : a.tmps.getD 17 undef = .int .i64 q := (hl 17 (by decide)).1 _ rfl
                          exact rop_val (v := .int .i64 q) (by go_simp) (hK _ _ (fun t ht => by cases ht; exact spec_new rfl rfl rfl) (Ext.refl _))
                        · refine rop_on [12] (by kernel_rfl) none (by kernel_rfl) (fun k b hk => by cases hk) (fun K a W hK hx hl => ?_)
                          have e12 : a.tmps.getD 12 undef = .int .i64 st0 := (hl 12 (by decide)).1 _ rfl
                          exact rop_val (v := .int .i64 st0) (by go_simp) (hK _ _ (fun t ht => by cases ht; exact spec_new rfl rfl rfl) (Ext.refl _))
                        · refine rop_on [162, 163] (by kernel_rfl) none (by kernel_rfl) (fun k b hk => by cases hk) (fun K a W hK hx hl => ?_)
                          have e162 : a.tmps.getD 162 undef = .int .i64 q := (hl 162 (by decide)).2 _ rfl
                          have e163 : a.tmps.getD 163 undef = .int .i64 st0 := (hl 163 (by decide)).2 _ rfl
                          exact rop_val (v := .bool false) (by go_simp) (hK _ _ (fun t ht => by cases ht; exact spec_new rfl rfl rfl) (Ext.refl _))
                        · refine rop_on [164] (by kernel_rfl) none (by kernel_rfl) (fun k b hk => by cases hk) (fun K a W hK hx hl => ?_)
                          have e164 : a.tmps.getD 164 undef = .bool false := (hl 164 (by decide)).2 _ rfl
                          exact rop_val (v := .bool false) (by go_simp) (hK _ _ (fun t ht => by cases ht; exact spec_new rfl rfl rfl) (Ext.refl _))
                        · refine rop_off 165 3 true rfl rfl (by kernel_rfl) (fun v w hS => by rw [hS.2 _ rfl]; exact fun h => by cases h) (fun t w ht => by cases ht; exact spec_none rfl rfl)
                        · refine rop_off 165 3 true rfl rfl (by kernel_rfl) (fun v w hS => by rw [hS.2 _ rfl]; exact fun h => by cases h) (fun t w ht => by cases ht; exact spec_none rfl rfl)
                        · refine rop_off 165 3 true rfl rfl (by kernel_rfl) (fun v w hS => by rw [hS.2 _ rfl]; exact fun h => by cases h) (fun t w ht => by cases ht; exact spec_none rfl rfl)
                        · refine rop_off 165 3 true rfl rfl (by kernel_rfl) (fun v w hS => by rw [hS.2 _ rfl]; exact fun h => by cases h) (fun t w ht => by cases ht; exact spec_none rfl rfl)
                        · refine rop_off 165 3 true rfl rfl (by kernel_rfl) (fun v w hS => by rw [hS.2 _ rfl]; exact fun h => by cases h) (fun t w ht => by cases ht; exact spec_none rfl rfl)
                        · refine rop_off 165 3 true rfl rfl (by kernel_rfl) (fun v w hS => by rw [hS.2 _ rfl]; exact fun h => by cases h) (fun t w ht => by cases ht; exact spec_none rfl rfl)
                        · refine rop_off 165 3 true rfl rfl (by kernel_rfl) (fun v w hS => by rw [hS.2 _ rfl]; exact fun h => by cases h) (fun t w ht => by cases ht; exact spec_none rfl rfl)
                        · refine rop_off 165 3 true rfl rfl (by kernel_rfl) (fun v w hS => by rw [hS.2 _ rfl]; exact fun h => by cases h) (fun t w ht => by cases ht; exact spec_none rfl rfl)
                        · refine rop_off 165 3 true rfl rfl (by kernel_rfl) (fun v w hS => by rw [hS.2 _ rfl]; exact fun h => by cases h) (fun t w ht => by cases ht; exact spec_none rfl rfl)
                        · refine rop_off 165 3 true rfl rfl (by kernel_rfl) (fun v w hS => by rw [hS.2 _ rfl]; exact fun h => by cases h) (fun t w ht => by cases ht; exact spec_new rfl rfl rfl)
                        · refine rop_off 175 13 false rfl rfl (by kernel_rfl) (fun v w hS => by rw [hS.2 _ rfl]; exact fun h => by cases h) (fun t w ht => by cases ht; exact spec_none rfl rfl)
                        · refine rop_off 175 13 false rfl rfl (by kernel_rfl) (fun v w hS => by rw [hS.2 _ rfl]; exact fun h => by cases h) (fun t w ht => by cases ht; exact spec_none rfl rfl)
                        · refine rop_off 175 13 false rfl rfl (by kernel_rfl) (fun v w hS => by rw [hS.2 _ rfl]; exact fun h => by cases h) (fun t w ht => by cases ht; exact spec_none rfl rfl)
                        · refine rop_off 175 13 false rfl rfl (by kernel_rfl) (fun v w hS => by rw [hS.2 _ rfl]; exact fun h => by cases h) (fun t w ht => by cases ht; exact spec_none rfl rfl)
                        · refine rop_off 175 13 false rfl rfl (by kernel_rfl) (fun v w hS => by rw [hS.2 _ rfl]; exact fun h => by cases h) (fun t w ht => by cases ht; exact spec_none rfl rfl)
                        · refine rop_off 175 13 false rfl rfl (by kernel_rfl) (fun v w hS => by rw [hS.2 _ rfl]; exact fun h => by cases h) (fun t w ht => by cases ht; exact spec_none rfl rfl)
                        · refine rop_off 175 13 false rfl rfl (by kernel_rfl) (fun v w hS => by rw [hS.2 _ rfl]; exact fun h => by cases h) (fun t w ht => by cases ht; exact spec_none rfl rfl)
                        · refine rop_off 175 13 false rfl rfl (by kernel_rfl) (fun v w hS => by rw [hS.2 _ rfl]; exact fun h => by cases h) (fun t w ht => by cases ht; exact spec_none rfl rfl)
                        · refine rop_off 175 13 false rfl rfl (by kernel_rfl) (fun v w hS => by rw [hS.2 _ rfl]; exact fun h => by cases h) (fun t w ht => by cases ht; exact spec_none rfl rfl)
                        · refine rop_off 165 3 true rfl rfl (by kernel_rfl) (fun v w hS => by rw [hS.2 _ rfl]; exact fun h => by cases h) (fun t w ht => by cases ht; exact spec_none rfl rfl)
                        · refine rop_off 165 3 true rfl rfl (by kernel_rfl) (fun v w hS => by rw [hS.2 _ rfl]; exact fun h => by cases h) (fun t w ht => by cases ht; exact spec_new rfl rfl rfl)
                        · refine rop_off 186 24 false rfl rfl (by kernel_rfl) (fun v w hS => by rw [hS.2 _ rfl]; exact fun h => by cases h) (fun t w ht => by cases ht; exact spec_none rfl rfl)
                        · refine rop_off 186 24 false rfl rfl (by kernel_rfl) (fun v w hS => by rw [hS.2 _ rfl]; exact fun h => by cases h) (fun t w ht => by cases ht; exact spec_none rfl rfl)
                        · refine rop_off 186 24 false rfl rfl (by kernel_rfl) (fun v w hS => by rw [hS.2 _ rfl]; exact fun h => by cases h) (fun t w ht => by cases ht; exact spec_none rfl rfl)
                        · refine rop_off 186 24 false rfl rfl (by kernel_rfl) (fun v w hS => by rw [hS.2 _ rfl]; exact fun h => by cases h) (fun t w ht => by cases ht; exact spec_none rfl rfl)
                        · refine rop_off 186 24 false rfl rfl (by kernel_rfl) (fun v w hS => by rw [hS.2 _ rfl]; exact fun h => by cases h) (fun t w ht => by cases ht; exact spec_none rfl rfl)
                        · refine rop_off 186 24 false rfl rfl (by kernel_rfl) (fun v w hS => by rw [hS.2 _ rfl]; exact fun h => by cases h) (fun t w ht => by cases ht; exact spec_none rfl rfl)
                        · refine rop_off 186 24 false rfl rfl (by kernel_rfl) (fun v w hS => by rw [hS.2 _ rfl]; exact fun h => by cases h) (fun t w ht => by cases ht; exact spec_none rfl rfl)
                        · refine rop_off 186 24 false rfl rfl (by kernel_rfl) (fun v w hS => by rw [hS.2 _ rfl]; exact fun h => by cases h) (fun t w ht => by cases ht; exact spec_none rfl rfl)
                        · refine rop_off 186 24 false rfl rfl (by kernel_rfl) (fun v w hS => by rw [hS.2 _ rfl]; exact fun h => by cases h) (fun t w ht => by cases ht; exact spec_none rfl rfl)
                        · refine rop_off 165 3 true rfl rfl (by kernel_rfl) (fun v w hS => by rw [hS.2 _ rfl]; exact fun h => by cases h) (fun t w ht => by cases ht; exact spec_none rfl rfl)
                        · refine rop_off 165 3 true rfl rfl (by kernel_rfl) (fun v w hS => by rw [hS.2 _ rfl]; exact fun h => by cases h) (fun t w ht => by cases ht; exact spec_new rfl rfl rfl)
                        · refine rop_off 197 35 false rfl rfl (by kernel_rfl) (fun v w hS => by rw [hS.2 _ rfl]; exact fun h => by cases h) (fun t w ht => by cases ht; exact spec_none rfl rfl)
                        · refine rop_off 197 35 false rfl rfl (by kernel_rfl) (fun v w hS => by rw [hS.2 _ rfl]; exact fun h => by cases h) (fun t w ht => by cases ht; exact spec_none rfl rfl)
                        · refine rop_off 197 35 false rfl rfl (by kernel_rfl) (fun v w hS => by rw [hS.2 _ rfl]; exact fun h => by cases h) (fun t w ht => by cases ht; exact spec_none rfl rfl)
                        · refine rop_off 197 35 false rfl rfl (by kernel_rfl) (fun v w hS => by rw [hS.2 _ rfl]; exact fun h => by cases h) (fun t w ht => by cases ht; exact spec_none rfl rfl)
                        · refine rop_off 197 35 false rfl rfl (by kernel_rfl) (fun v w hS => by rw [hS.2 _ rfl]; exact fun h => by cases h) (fun t w ht => by cases ht; exact spec_none rfl rfl)
                        · refine rop_off 165 3 true rfl rfl (by kernel_rfl) (fun v w hS => by rw [hS.2 _ rfl]; exact fun h => by cases h) (fun t w ht => by cases ht; exact spec_none rfl rfl)
                        · refine rop_on [165, 203] (by kernel_rfl) none (by kernel_rfl) (fun k b hk => by cases hk) (fun K a W hK hx hl => ?_)
                          have e165 : a.tmps.getD 165 undef = .bool false := (hl 165 (by decide)).2 _ rfl
                          exact rop_val (v := .bool false) (by go_simp) (hK _ _ (fun t ht => by cases ht; exact spec_new rfl rfl rfl) (Ext.refl _))
                        · intro x hx; cases hx
                      · intro vf W hx hS
                        have hend : vf 204 = .bool false := (hS 204 ⟨_, List.mem_of_getElem? (i := 42) rfl, rfl⟩).2 _ rfl
                        simp only [fill, List.foldl_cons, List.foldl_nil, List.setIfInBounds_toArray, List.set_cons_zero, List.set_cons_succ]
                        go_wp2_with fail
                        go_meet
                        exact ⟨rfl, hx⟩
                  case rest =>
                    obtain ⟨rfl, hxc⟩ := hcut
                    have HXC := Lib.hid hxc
                    clear hxc
                    go_wp2_with fail
                    generalize hwc : wc = w3 at HXC ⊢
                    clear hwc
                    have HX3 := Lib.hid (HX2.out.trans HXC.out)
                    have HTB3 := Lib.hid (HTB.out.ext HXC.out)
                    have HZ03 := Lib.hid (HXC.out.cell HZ0.out)
                    clear HTB HZ0 HXC
                    have HTB := HTB3
                    have HZ0 := HZ03
                    clear HTB3 HZ03
                    go_cut [228] (fun s wx => s = .bool false ∧ Ext w3 wx)
                    case first =>
                     by_cases hqs : q < st0
                     · have d0 : decide ((st0 : Int) ≤ (q : Int)) = false := decide_eq_false (by omega)
                       have nb3 : ¬ ((st0 : Int) ≤ (q : Int)) := by omega
                       refine wp_region_invF (SpecS (b30B q st0) (r32A q st0)) (by kernel_rfl) (by kernel_rfl) SpecS.ext (SpecS.start (by kernel_rfl) ?_) ?_ ?_
                       · exact lookup_all (by simp [b30B, Spec.holds])
                       · simp only [List.forall_mem_cons]
                         repeat' apply And.intro
                         · refine rop_on [17] (by kernel_rfl) none (by kernel_rfl) (fun k b hk => by cases hk) (fun K a W hK hx hl => ?_)
                           have e17 : a.tmps.getD 17 undef = .int .i64 q := (hl 17 (by decide)).1 _ rfl
                           exact rop_val (v := .int .i64 q) (by go_simp) (hK _ _ (fun t ht => by cases ht; exact spec_new rfl rfl rfl) (Ext.refl _))
                         · refine rop_on [12] (by kernel_rfl) none (by kernel_rfl) (fun k b hk => by cases hk) (fun K a W hK hx hl => ?_)
                           have e12 : a.tmps.getD 12 undef = .int .i64 st0 := (hl 12 (by decide)).1 _ rfl
                           exact rop_val (v := .int .i64 st0) (by go_simp) (hK _ _ (fun t ht => by cases ht; exact spec_new rfl rfl rfl) (Ext.refl _))
                         · refine rop_on [205, 206] (by kernel_rfl) none (by kernel_rfl) (fun k b hk => by cases hk) (fun K a W hK hx hl => ?_)
                           have e205 : a.tmps.getD 205 undef = .int .i64 q := (hl 205 (by decide)).2 _ rfl
                           have e206 : a.tmps.getD 206 undef = .int .i64 st0 := (hl 206 (by decide)).2 _ rfl
                           exact rop_val (v := .bool false) (by go_simp) (hK _ _ (fun t ht => by cases ht; exact spec_new rfl rfl rfl) (Ext.refl _))
                         · refine rop_on [207] (by kernel_rfl) none (by kernel_rfl) (fun k b hk => by cases hk) (fun K a W hK hx hl => ?_)
                           have e207 : a.tmps.getD 207 undef = .bool false := (hl 207 (by decide)).2 _ rfl
                           exact rop_val (v := .bool false) (by go_simp) (hK _ _ (fun t ht => by cases ht; exact spec_new rfl rfl rfl) (Ext.refl _))
                         · refine rop_off 208 3 true rfl rfl (by kernel_rfl) (fun v w hS => by rw [hS.2 _ rfl]; exact fun h => by cases h) (fun t w ht => by cases ht; exact spec_none rfl rfl)
                         · refine rop_off 208 3 true rfl rfl (by kernel_rfl) (fun v w hS => by rw [hS.2 _ rfl]; exact fun h => by cases h) (fun t w ht => by cases ht; exact spec_none rfl rfl)
                         · refine rop_off 208 3 true rfl rfl (by kernel_rfl) (fun v w hS => by rw [hS.2 _ rfl]; exact fun h => by cases h) (fun t w ht => by cases ht; exact spec_none rfl rfl)
                         · refine rop_off 208 3 true rfl rfl (by kernel_rfl) (fun v w hS => by rw [hS.2 _ rfl]; exact fun h => by cases h) (fun t w ht => by cases ht; exact spec_none rfl rfl)
                         · refine rop_off 208 3 true rfl rfl (by kernel_rfl) (fun v w hS => by rw [hS.2 _ rfl]; exact fun h => by cases h) (fun t w ht => by cases ht; exact spec_none rfl rfl)
                         · refine rop_off 208 3 true rfl rfl (by kernel_rfl) (fun v w hS => by rw [hS.2 _ rfl]; exact fun h => by cases h) (fun t w ht => by cases ht; exact spec_none rfl rfl)
                         · refine rop_off 208 3 true rfl rfl (by kernel_rfl) (fun v w hS => by rw [hS.2 _ rfl]; exact fun h => by cases h) (fun t w ht => by cases ht; exact spec_none rfl rfl)
                         · refine rop_off 208 3 true rfl rfl (by kernel_rfl) (fun v w hS => by rw [hS.2 _ rfl]; exact fun h => by cases h) (fun t w ht => by cases ht; exact spec_none rfl rfl)
                         · refine rop_off 208 3 true rfl rfl (by kernel_rfl) (fun v w hS => by rw [hS.2 _ rfl]; exact fun h => by cases h) (fun t w ht => by cases ht; exact spec_none rfl rfl)
                         · refine rop_off 208 3 true rfl rfl (by kernel_rfl) (fun v w hS => by rw [hS.2 _ rfl]; exact fun h => by cases h) (fun t w ht => by cases ht; exact spec_none rfl rfl)
                         · refine rop_off 208 3 true rfl rfl (by kernel_rfl) (fun v w hS => by rw [hS.2 _ rfl]; exact fun h => by cases h) (fun t w ht => by cases ht; exact spec_none rfl rfl)
                         · refine rop_off 208 3 true rfl rfl (by kernel_rfl) (fun v w hS => by rw [hS.2 _ rfl]; exact fun h => by cases h) (fun t w ht => by cases ht; exact spec_none rfl rfl)
                         · refine rop_off 208 3 true rfl rfl (by kernel_rfl) (fun v w hS => by rw [hS.2 _ rfl]; exact fun h => by cases h) (fun t w ht => by cases ht; exact spec_none rfl rfl)
                         · refine rop_off 208 3 true rfl rfl (by kernel_rfl) (fun v w hS => by rw [hS.2 _ rfl]; exact fun h => by cases h) (fun t w ht => by cases ht; exact spec_new rfl rfl rfl)
                         · refine rop_off 222 17 false rfl rfl (by kernel_rfl) (fun v w hS => by rw [hS.2 _ rfl]; exact fun h => by cases h) (fun t w ht => by cases ht; exact spec_none rfl rfl)
                         · refine rop_off 222 17 false rfl rfl (by kernel_rfl) (fun v w hS => by rw [hS.2 _ rfl]; exact fun h => by cases h) (fun t w ht => by cases ht; exact spec_none rfl rfl)
                         · refine rop_off 222 17 false rfl rfl (by kernel_rfl) (fun v w hS => by rw [hS.2 _ rfl]; exact fun h => by cases h) (fun t w ht => by cases ht; exact spec_none rfl rfl)
                         · refine rop_off 222 17 false rfl rfl (by kernel_rfl) (fun v w hS => by rw [hS.2 _ rfl]; exact fun h => by cases h) (fun t w ht => by cases ht; exact spec_none rfl rfl)
                         · refine rop_off 208 3 true rfl rfl (by kernel_rfl) (fun v w hS => by rw [hS.2 _ rfl]; exact fun h => by cases h) (fun t w ht => by cases ht; exact spec_none rfl rfl)
                         · refine rop_on [208, 227] (by kernel_rfl) none (by kernel_rfl) (fun k b hk => by cases hk) (fun K a W hK hx hl => ?_)
                           have e208 : a.tmps.getD 208 undef = .bool false := (hl 208 (by decide)).2 _ rfl
                           exact rop_val (v := .bool false) (by go_simp) (hK _ _ (fun t ht => by cases ht; exact spec_new rfl rfl rfl) (Ext.refl _))
                         · intro x hx; cases hx
                       · intro vf W hx hS
                         have hend : vf 228 = .bool false := (hS 228 ⟨_, List.mem_of_getElem? (i := 23) rfl, rfl⟩).2 _ rfl
                         simp only [fill, List.foldl_cons, List.foldl_nil, List.setIfInBounds_toArray, List.set_cons_zero, List.set_cons_succ]
                         go_wp2_with fail
                         go_meet
                         exact ⟨rfl, hx⟩
                     · obtain ⟨jx, hjx⟩ : ∃ jx, S.rows.length - 1 - q = jx := ⟨_, rfl⟩
                       have hj1 : jx < S.rows.length - st0 := by omega
                       obtain ⟨ad3, x3, rfl, hxx3, hc3, _, _⟩ := (HG9.out.ext HX3.out).at_ hj1
                       have hb := HBA.out.2 hqs
                       rw [hjx] at hb
                       obtain rfl : x3 = r.lit := by
                         have := hxx3.out
                         unfold backO at this
                         rw [HCL2.out, hb.1] at this
                         exact (Option.some.inj this).symm
                       have HL4 : Hid (valT (backT S level).rows v = 0) := by unfold Hid; rw [HROWS.out]; exact hb.2
                       have HZ4 := Lib.hid hc3
                       have d0 : decide ((st0 : Int) ≤ (q : Int)) = true := decide_eq_true (by omega)
                       have nb3 : (st0 : Int) ≤ (q : Int) := by omega
                       have hs1 : IntKind.i64.wrap ((S.rows.length : Int) - 1) = (S.rows.length : Int) - 1 := IntWalk.i64_in _ (by omega)
                       have hs2 : IntKind.i64.wrap ((S.rows.length : Int) - 1 - (q : Int)) = (jx : Int) := by rw [IntWalk.i64_in _ (by omega)]; omega
                       have nb4 : ¬ (((S.rows.length - st0 : Nat) : Int) ≤ (jx : Int)) := by omega
                       have nb5 : ¬ ((S.rows.length : Int) ≤ (q : Int)) := by omega
                       have nb6 : (jx : Int) < ((S.rows.length - st0 : Nat) : Int) := by omega
                       clear hxx3 hc3 hb hjx
                       refine wp_region_invF (SpecS (b32B p q st0 S.rows.length (S.rows.length - st0) c6 cg ad ad3 v) (r32B p q st0 S.rows.length (S.rows.length - st0) jx c6 cg ad ad3 r.lit v)) (by kernel_rfl) (by kernel_rfl) SpecS.ext (SpecS.start (by kernel_rfl) ?_) ?_ ?_
                       · exact lookup_all (by simp [b32B, Spec.holds])
                       · simp only [List.forall_mem_cons]
                         repeat' apply And.intro
                         · refine rop_on [17] (by kernel_rfl) none (by kernel_rfl) (fun k b hk => by cases hk) (fun K a W hK hx hl => ?_)
                           have e17 : a.tmps.getD 17 undef = .int .i64 q := (hl 17 (by decide)).1 _ rfl
                           exact rop_val (v := .int .i64 q) (by go_simp) (hK _ _ (fun t ht => by cases ht; exact spec_new rfl rfl rfl) (Ext.refl _))
                         · refine rop_on [12] (by kernel_rfl) none (by kernel_rfl) (fun k b hk => by cases hk) (fun K a W hK hx hl => ?_)
                           have e12 : a.tmps.getD 12 undef = .int .i64 st0 := (hl 12 (by decide)).1 _ rfl
                           exact rop_val (v := .int .i64 st0) (by go_simp) (hK _ _ (fun t ht => by cases ht; exact spec_new rfl rfl rfl) (Ext.refl _))
                         · refine rop_on [205, 206] (by kernel_rfl) none (by kernel_rfl) (fun k b hk => by cases hk) (fun K a W hK hx hl => ?_)
                           have e205 : a.tmps.getD 205 undef = .int .i64 q := (hl 205 (by decide)).2 _ rfl
                           have e206 : a.tmps.getD 206 undef = .int .i64 st0 := (hl 206 (by decide)).2 _ rfl
                           exact rop_val (v := .bool true) (by go_simp) (hK _ _ (fun t ht => by cases ht; exact spec_new rfl rfl rfl) (Ext.refl _))
                         · refine rop_on [207] (by kernel_rfl) none (by kernel_rfl) (fun k b hk => by cases hk) (fun K a W hK hx hl => ?_)
                           have e207 : a.tmps.getD 207 undef = .bool true := (hl 207 (by decide)).2 _ rfl
                           exact rop_val (v := .bool true) (by go_simp) (hK _ _ (fun t ht => by cases ht; exact spec_new rfl rfl rfl) (Ext.refl _))
                         · refine rop_on [15, 208] (by kernel_rfl) (some (208, true)) (by kernel_rfl) (fun k b hk v w hS => by cases hk; exact hS.2 _ rfl) (fun K a W hK hx hl => ?_)
                           have e15 : a.tmps.getD 15 undef = .slice (some ad3) (S.rows.length - st0) cg := (hl 15 (by decide)).1 _ rfl
                           exact rop_val (v := .slice (some ad3) (S.rows.length - st0) cg) (by go_simp) (hK _ _ (fun t ht => by cases ht; exact spec_new rfl rfl rfl) (Ext.refl _))
                         · refine rop_on [10, 208] (by kernel_rfl) (some (208, true)) (by kernel_rfl) (fun k b hk v w hS => by cases hk; exact hS.2 _ rfl) (fun K a W hK hx hl => ?_)
                           have e10 : a.tmps.getD 10 undef = .slice (some ad) S.rows.length c6 := (hl 10 (by decide)).1 _ rfl
                           exact rop_val (v := .slice (some ad) S.rows.length c6) (by go_simp) (hK _ _ (fun t ht => by cases ht; exact spec_new rfl rfl rfl) (Ext.refl _))
                         · refine rop_on [208, 210] (by kernel_rfl) (some (208, true)) (by kernel_rfl) (fun k b hk v w hS => by cases hk; exact hS.2 _ rfl) (fun K a W hK hx hl => ?_)
                           have e210 : a.tmps.getD 210 undef = .slice (some ad) S.rows.length c6 := (hl 210 (by decide)).2 _ rfl
                           exact rop_val (v := .int .i64 S.rows.length) (by go_simp) (hK _ _ (fun t ht => by cases ht; exact spec_new rfl rfl rfl) (Ext.refl _))
                         · refine rop_on [208, 211] (by kernel_rfl) (some (208, true)) (by kernel_rfl) (fun k b hk v w hS => by cases hk; exact hS.2 _ rfl) (fun K a W hK hx hl => ?_)
                           have e211 : a.tmps.getD 211 undef = .int .i64 S.rows.length := (hl 211 (by decide)).2 _ rfl
                           exact rop_val (v := .int .i64 ((S.rows.length : Int) - 1)) (by go_simp) (hK _ _ (fun t ht => by cases ht; exact spec_new rfl rfl rfl) (Ext.refl _))
                         · refine rop_on [17, 208] (by kernel_rfl) (some (208, true)) (by kernel_rfl) (fun k b hk v w hS => by cases hk; exact hS.2 _ rfl) (fun K a W hK hx hl => ?_)
                           have e17 : a.tmps.getD 17 undef = .int .i64 q := (hl 17 (by decide)).1 _ rfl
                           exact rop_val (v := .int .i64 q) (by go_simp) (hK _ _ (fun t ht => by cases ht; exact spec_new rfl rfl rfl) (Ext.refl _))
                         · refine rop_on [208, 212, 213] (by kernel_rfl) (some (208, true)) (by kernel_rfl) (fun k b hk v w hS => by cases hk; exact hS.2 _ rfl) (fun K a W hK hx hl => ?_)
                           have e212 : a.tmps.getD 212 undef = .int .i64 ((S.rows.length : Int) - 1) := (hl 212 (by decide)).2 _ rfl
                           have e213 : a.tmps.getD 213 undef = .int .i64 q := (hl 213 (by decide)).2 _ rfl
                           exact rop_val (v := .int .i64 jx) (by go_simp) (hK _ _ (fun t ht => by cases ht; exact spec_new rfl rfl rfl) (Ext.refl _))
                         · refine rop_on [208, 209, 214] (by kernel_rfl) (some (208, true)) (by kernel_rfl) (fun k b hk v w hS => by cases hk; exact hS.2 _ rfl) (fun K a W hK hx hl => ?_)
                           have e209 : a.tmps.getD 209 undef = .slice (some ad3) (S.rows.length - st0) cg := (hl 209 (by decide)).2 _ rfl
                           have e214 : a.tmps.getD 214 undef = .int .i64 jx := (hl 214 (by decide)).2 _ rfl
                           exact rop_val (v := .pointer (some (ad3.add jx))) (by go_simp) (hK _ _ (fun t ht => by cases ht; exact spec_new rfl rfl rfl) (Ext.refl _))
                         · refine rop_on [208, 215] (by kernel_rfl) (some (208, true)) (by kernel_rfl) (fun k b hk v w hS => by cases hk; exact hS.2 _ rfl) (fun K a W hK hx hl => ?_)
                           have e215 : a.tmps.getD 215 undef = .pointer (some (ad3.add jx)) := (hl 215 (by decide)).2 _ rfl
                           have z0 := hx.cell HZ0.out
                           have z4 := hx.cell HZ4.out
                           exact rop_val (v := .int .i64 r.lit) (by go_simp) (hK _ _ (fun t ht => by cases ht; exact spec_new rfl rfl rfl) (Ext.refl _))
                         · refine rop_on [10, 208] (by kernel_rfl) (some (208, true)) (by kernel_rfl) (fun k b hk v w hS => by cases hk; exact hS.2 _ rfl) (fun K a W hK hx hl => ?_)
                           have e10 : a.tmps.getD 10 undef = .slice (some ad) S.rows.length c6 := (hl 10 (by decide)).1 _ rfl
                           exact rop_val (v := .slice (some ad) S.rows.length c6) (by go_simp) (hK _ _ (fun t ht => by cases ht; exact spec_new rfl rfl rfl) (Ext.refl _))
                         · refine rop_on [17, 208] (by kernel_rfl) (some (208, true)) (by kernel_rfl) (fun k b hk v w hS => by cases hk; exact hS.2 _ rfl) (fun K a W hK hx hl => ?_)
                           have e17 : a.tmps.getD 17 undef = .int .i64 q := (hl 17 (by decide)).1 _ rfl
                           exact rop_val (v := .int .i64 q) (by go_simp) (hK _ _ (fun t ht => by cases ht; exact spec_new rfl rfl rfl) (Ext.refl _))
                         · refine rop_on [208, 217, 218] (by kernel_rfl) (some (208, true)) (by kernel_rfl) (fun k b hk v w hS => by cases hk; exact hS.2 _ rfl) (fun K a W hK hx hl => ?_)
                           have e217 : a.tmps.getD 217 undef = .slice (some ad) S.rows.length c6 := (hl 217 (by decide)).2 _ rfl
                           have e218 : a.tmps.getD 218 undef = .int .i64 q := (hl 218 (by decide)).2 _ rfl
                           exact rop_val (v := .pointer (some (ad.add q))) (by go_simp) (hK _ _ (fun t ht => by cases ht; exact spec_new rfl rfl rfl) (Ext.refl _))
                         · refine rop_on [208, 219] (by kernel_rfl) (some (208, true)) (by kernel_rfl) (fun k b hk v w hS => by cases hk; exact hS.2 _ rfl) (fun K a W hK hx hl => ?_)
                           have e219 : a.tmps.getD 219 undef = .pointer (some (ad.add q)) := (hl 219 (by decide)).2 _ rfl
                           have z0 := hx.cell HZ0.out
                           have z4 := hx.cell HZ4.out
                           exact rop_val (v := .int .i64 r.lit) (by go_simp) (hK _ _ (fun t ht => by cases ht; exact spec_new rfl rfl rfl) (Ext.refl _))
                         · refine rop_on [208, 216, 220] (by kernel_rfl) (some (208, true)) (by kernel_rfl) (fun k b hk v w hS => by cases hk; exact hS.2 _ rfl) (fun K a W hK hx hl => ?_)
                           have e216 : a.tmps.getD 216 undef = .int .i64 r.lit := (hl 216 (by decide)).2 _ rfl
                           have e220 : a.tmps.getD 220 undef = .int .i64 r.lit := (hl 220 (by decide)).2 _ rfl
                           exact rop_val (v := .bool false) (by go_simp) (hK _ _ (fun t ht => by cases ht; exact spec_new rfl rfl rfl) (Ext.refl _))
                         · refine rop_on [208, 221] (by kernel_rfl) (some (208, true)) (by kernel_rfl) (fun k b hk v w hS => by cases hk; exact hS.2 _ rfl) (fun K a W hK hx hl => ?_)
                           have e221 : a.tmps.getD 221 undef = .bool false := (hl 221 (by decide)).2 _ rfl
                           exact rop_val (v := .bool false) (by go_simp) (hK _ _ (fun t ht => by cases ht; exact spec_new rfl rfl rfl) (Ext.refl _))
                         · refine rop_on [7, 222] (by kernel_rfl) (some (222, false)) (by kernel_rfl) (fun k b hk v w hS => by cases hk; exact hS.2 _ rfl) (fun K a W hK hx hl => ?_)
                           have e7 : a.tmps.getD 7 undef = .pointer (some ⟨p, 0, none⟩) := (hl 7 (by decide)).1 _ rfl
                           exact rop_val (v := .pointer (some ⟨p, 0, none⟩)) (by go_simp) (hK _ _ (fun t ht => by cases ht; exact spec_new rfl rfl rfl) (Ext.refl _))
                         · refine rop_on [18, 222] (by kernel_rfl) (some (222, false)) (by kernel_rfl) (fun k b hk v w hS => by cases hk; exact hS.2 _ rfl) (fun K a W hK hx hl => ?_)
                           have e18 : a.tmps.getD 18 undef = .int .i64 v := (hl 18 (by decide)).1 _ rfl
                           exact rop_val (v := .int .i64 v) (by go_simp) (hK _ _ (fun t ht => by cases ht; exact spec_new rfl rfl rfl) (Ext.refl _))
                         · refine rop_on [222, 223, 224] (by kernel_rfl) (some (222, false)) (by kernel_rfl) (fun k b hk v w hS => by cases hk; exact hS.2 _ rfl) (fun K a W hK hx hl => ?_)
                           have e223 : a.tmps.getD 223 undef = .pointer (some ⟨p, 0, none⟩) := (hl 223 (by decide)).2 _ rfl
                           have e224 : a.tmps.getD 224 undef = .int .i64 v := (hl 224 (by decide)).2 _ rfl
                           unfold Oper.wp
                           rw [show (execOp a.eval _).run Try.prog W = .ok (.enter 22 #[.pointer (some ⟨p, 0, none⟩), .int .i64 v]) W from by go_simp, Oper.upon_enter]
                           refine (trValueS_c _ _ p gm lv' bv' (backT S level) (k + 1) v (HTB.out.ext hx) (by omega) (by omega)).mono ?_
                           rintro e w1 ⟨rfl, hx1⟩
                           rw [HL4.out]
                           exact hK _ _ (fun t ht => by cases ht; exact spec_new rfl rfl rfl) hx1
                         · refine rop_on [222, 225] (by kernel_rfl) (some (222, false)) (by kernel_rfl) (fun k b hk v w hS => by cases hk; exact hS.2 _ rfl) (fun K a W hK hx hl => ?_)
                           have e225 : a.tmps.getD 225 undef = .int .i64 0 := (hl 225 (by decide)).2 _ rfl
                           exact rop_val (v := .bool false) (by go_simp) (hK _ _ (fun t ht => by cases ht; exact spec_new rfl rfl rfl) (Ext.refl _))
                         · refine rop_on [208, 222, 226] (by kernel_rfl) (some (208, true)) (by kernel_rfl) (fun k b hk v w hS => by cases hk; exact hS.2 _ rfl) (fun K a W hK hx hl => ?_)
                           have e222 : a.tmps.getD 222 undef = .bool false := (hl 222 (by decide)).2 _ rfl
                           have e226 : a.tmps.getD 226 undef = .bool false := (hl 226 (by decide)).2 _ rfl
                           exact rop_val (v := .bool false) (by go_simp) (hK _ _ (fun t ht => by cases ht; exact spec_new rfl rfl rfl) (Ext.refl _))
                         · refine rop_on [208, 227] (by kernel_rfl) none (by kernel_rfl) (fun k b hk => by cases hk) (fun K a W hK hx hl => ?_)
                           have e208 : a.tmps.getD 208 undef = .bool true := (hl 208 (by decide)).2 _ rfl
                           have e227 : a.tmps.getD 227 undef = .bool false := (hl 227 (by decide)).2 _ rfl
                           exact rop_val (v := .bool false) (by go_simp) (hK _ _ (fun t ht => by cases ht; exact spec_new rfl rfl rfl) (Ext.refl _))
                         · intro x hx; cases hx
                       · intro vf W hx hS
                         have hend : vf 228 = .bool false := (hS 228 ⟨_, List.mem_of_getElem? (i := 23) rfl, rfl⟩).2 _ rfl
                         simp only [fill, List.foldl_cons, List.foldl_nil, List.setIfInBounds_toArray, List.set_cons_zero, List.set_cons_succ]
                         go_wp2_with fail
                         go_meet
                         exact ⟨rfl, hx⟩
                    case rest =>
                      obtain ⟨rfl, hxd⟩ := hcut
                      go_wp2_with fail
                      go_roundw
                      case rel => exact ⟨q + 1, by omega, by go_num, HX3.out.trans hxd⟩
                      case measure => simp [intOf]; omega
                · go_wp2_with fail
                  refine (law13awake_c _).mono ?_
                  rintro e wz ⟨rfl, hxz⟩
                  go_wp2_with fail
                  go_ret
                  exact ⟨rfl, HX9.out.trans (HXQ.out.trans hxz)⟩
end Go.Proofs.Ytbkimfefbdfkbaa
