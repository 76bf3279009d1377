/- ArenaKeeps answers true. -/
import Derived.Test.YtbkimfefbdfkbaaAr16
import Derived.Test.YtbkimfefbdfkbaaRegS
import Derived.Deep.QuietTactic
import Derived.Deep.DeepCutAuto
set_option maxRecDepth 100000
namespace Go.Proofs.Ytbkimfefbdfkbaa
open Go.RowKit

theorem swapL_len (l : List Int) (i j : Nat) : (swapL l i j).length = l.length := by simp [swapL]
theorem swapL_mem {l : List Int} {i j : Nat} (hi : i < l.length) (hj : j < l.length) {x : Int} (h : x ∈ swapL l i j) : x ∈ l := by
  unfold swapL at h
  rcases List.mem_or_eq_of_mem_set h with h | h
  · rcases List.mem_or_eq_of_mem_set h with h | h
    · exact h
    · rw [h]; simp [List.getD, hj]
  · rw [h]; simp [List.getD, hi]
theorem swapL_zero {l : List Int} {y : Int} (h : l[1]? = some y) : (swapL l 0 1)[0]? = some y := by
  have hl := (List.getElem?_eq_some_iff.1 h).1
  unfold swapL
  rw [List.getElem?_set_ne (by decide), List.getElem?_set_self (by omega)]
  simp [List.getD, h]
theorem Keep3.swap2 {R : List ARow} {i : Nat} {T : ASt} (h : Keep3 R i T) (hT : AInv T) {r : ARow} (hr : R[i]? = some r) (hl : 1 < r.lits.length) : swapE T (offA R i : Nat) 0 1 = 0 ∧ Keep3 R (i + 1) (swapS T (offA R i : Nat) 0 1) ∧ (AInv (swapS T (offA R i : Nat) 0 1) → litsA (swapS T (offA R i : Nat) 0 1).rows (offA R i : Nat) = swapL r.lits 0 1) := by
  obtain ⟨h1, h2, r'', h3, h4⟩ := h.swap hT hr hl
  refine ⟨h1, h2, fun hI => ?_⟩
  obtain ⟨r', e1, e2, _⟩ := h2.find hI hr
  rw [h3] at e1; cases e1
  rw [litsA_of e2, h4]
theorem IntSl.cellAt {w : World} {ad : Addr} {n : Nat} {xs : List Int} (h : IntSl w (some ad) n xs) {j : Nat} {x : Int} (hx : xs[j]? = some x) : w.cell? (ad.add j) = some (.int .i64 x) := by
  have hl := (List.getElem?_eq_some_iff.1 hx).1
  obtain ⟨ad', e, hc⟩ := h.2.2.2 (by have := h.1; omega)
  cases e
  exact hc j x hx
theorem add_zero15 (a : Addr) : a.add 0 = a := by unfold Addr.add; simp
theorem sameV_refl12 (xs : List Int) : sameV xs xs = true := by simp [sameV]
def base14 (p j n ca : Nat) (ad : Addr) : List (Nat × Spec) := [(3, .val (.pointer (some ⟨p, 0, none⟩))), (5, .val (.slice (some ad) n ca)), (8, .val (.int .i64 j))]
def reg14 (p j n ca b : Nat) (ad : Addr) (rpos rid : Int) (xs : List Int) (rl : Bool) : List (Nat × Spec) := [(9, .any (fun v W => ∃ g, v = .pointer (some ⟨g, 0, none⟩) ∧ b ≤ g ∧ Blk W g 72 #[.int .i64 0, .int .i64 0, .slice none 0 0, .bool false, .bool false]) (fun _ _ _ ⟨_, h1, h2, h3⟩ hx => ⟨_, h1, h2, h3.ext hx⟩)), (44, .val (.pointer (some ⟨p, 0, none⟩))), (45, .val (.slice (some ad) n ca)), (46, .val (.int .i64 j)), (47, .val (.pointer (some (ad.add j)))), (48, .val (.int .i64 rpos)), (49, .val (.int .i64 rid)), (50, .val (.pointer (some ⟨p, 0, none⟩))), (51, .val (.slice (some ad) n ca)), (52, .val (.int .i64 j)), (53, .val (.pointer (some (ad.add j)))), (54, .val (.int .i64 rpos)), (55, .any (fun v W => ∃ A1 n1 c1, v = .slice A1 n1 c1 ∧ OwnI W b (.slice A1 n1 c1) xs) (fun _ _ _ ⟨_, _, _, h1, h2⟩ hx => ⟨_, _, _, h1, h2.ext hx⟩)), (56, .val (.pointer (some ⟨p, 0, none⟩))), (57, .val (.slice (some ad) n ca)), (58, .val (.int .i64 j)), (59, .val (.pointer (some (ad.add j)))), (60, .val (.int .i64 rpos)), (61, .val (.bool rl)), (62, .any (fun v W => ∃ A1 n1 c1, v = .agg #[.int .i64 0, .int .i64 rid, .slice A1 n1 c1, .bool rl, .bool false] ∧ OwnI W b (.slice A1 n1 c1) xs) (fun _ _ _ ⟨_, _, _, h1, h2⟩ hx => ⟨_, _, _, h1, h2.ext hx⟩))]
def base24 (p q nR c6 cn cw : Nat) (adr adn adw : Addr) : List (Nat × Spec) := [(3, .val (.pointer (some ⟨p, 0, none⟩))), (6, .val (.slice (some adr) nR c6)), (10, .val (.slice (some adw) nR cw)), (11, .val (.slice (some adn) nR cn)), (12, .val (.int .i64 q))]
def reg24 (p q nR c6 cn cw kn kc xo : Nat) (adr adn adw : Addr) (rp rid : Int) (kA : Option Addr) (rl : Bool) (xs : List Int) : List (Nat × Spec) := [(100, .val (.slice (some adr) nR c6)), (101, .val (.int .i64 q)), (102, .val (.pointer (some (adr.add (q * 5))))), (103, .val (.agg #[.int .i64 0, .int .i64 rid, .slice kA kn kc, .bool rl, .bool false])), (104, .val (.pointer (some ⟨p, 0, none⟩))), (105, .val (.slice (some adn) nR cn)), (106, .val (.int .i64 q)), (107, .val (.pointer (some (adn.add q)))), (108, .val (.int .i64 xo)), (109, .val (.int .i64 rid)), (110, .val (.pointer (some ⟨p, 0, none⟩))), (111, .val (.slice (some adn) nR cn)), (112, .val (.int .i64 q)), (113, .val (.pointer (some (adn.add q)))), (114, .val (.int .i64 xo)), (115, .ints (xs)), (116, .val (.pointer (some ⟨p, 0, none⟩))), (117, .val (.slice (some adn) nR cn)), (118, .val (.int .i64 q)), (119, .val (.pointer (some (adn.add q)))), (120, .val (.int .i64 xo)), (121, .val (.bool rl)), (122, .val (.bool true)), (123, .val (.bool false)), (124, .val (.bool false)), (125, .val (.slice (some adn) nR cn)), (126, .val (.int .i64 q)), (127, .val (.pointer (some (adn.add q)))), (128, .val (.int .i64 xo)), (129, .val (.slice (some adw) nR cw)), (130, .val (.int .i64 q)), (131, .val (.pointer (some (adw.add q)))), (132, .val (.int .i64 rp)), (133, .val (.bool false)), (134, .val (.bool false))]
def base30 (p q nR cn ct cm nl : Nat) (adn adt adm : Addr) : List (Nat × Spec) := [(3, .val (.pointer (some ⟨p, 0, none⟩))), (11, .val (.slice (some adn) nR cn)), (12, .val (.int .i64 q)), (13, .val (.slice (some adm) nl cm)), (14, .val (.slice (some adt) nl ct))]
def reg30 (p q nR cn ct cm nl xo : Nat) (adn adt adm : Addr) (y : Int) (ys : List Int) : List (Nat × Spec) := [(153, .val (.slice (some adm) nl cm)), (154, .val (.slice (some adt) nl ct)), (155, .val (.bool true)), (156, .val (.bool false)), (157, .val (.bool false)), (158, .val (.pointer (some ⟨p, 0, none⟩))), (159, .val (.slice (some adn) nR cn)), (160, .val (.int .i64 q)), (161, .val (.pointer (some (adn.add q)))), (162, .val (.int .i64 xo)), (163, .any (fun v W => ∃ A n c, v = .slice A n c ∧ 0 < n ∧ IntSl W A n ys) (fun _ _ _ ⟨_, _, _, h1, h2, h3⟩ hx => ⟨_, _, _, h1, h2, h3.ext hx⟩)), (164, .any (fun v W => ∃ ad, v = .pointer (some ad) ∧ W.cell? ad = some (.int .i64 y)) (fun _ _ _ ⟨_, h1, h2⟩ hx => ⟨_, h1, hx.cell h2⟩)), (165, .val (.int .i64 y)), (166, .val (.slice (some adt) nl ct)), (167, .val (.pointer (some (adt.add 1)))), (168, .val (.int .i64 y)), (169, .val (.bool false)), (170, .val (.bool false))]
set_option maxRecDepth 100000 in
set_option maxHeartbeats 16000000 in
theorem lawArenaKeeps_c (A : Option Addr) (n c : Nat) (l : List ActA) (w : World) (h : Acts12 w A n l) :
    Calls Try.prog 6 #[.slice A n c] w fun e w' => e = .returned (.bool true) ∧ Ext w w' := by
  cases hf : few12V l with
  | false =>
    have HF := Lib.hid hf
    clear hf
    go_enter Try.func6, Try.ntmps6
    go_wp2_with fail
    refine (arNew_c _).mono ?_
    rintro e w1 ⟨rfl, hm1, hx1⟩
    have HX1 := Lib.hid hx1
    have HA := Lib.hid (h.ext hx1)
    clear hm1 hx1
    go_wp2_with fail
    refine (few12_c _ _ _ l _ HA.out).mono ?_
    rintro e w1' ⟨rfl, rfl⟩
    rw [HF.out]
    go_wp2_with fail
    refine (law12awake_c _).mono ?_
    rintro e w2 ⟨rfl, hx2⟩
    go_wp2_with fail
    go_ret
    exact ⟨rfl, HX1.out.trans hx2⟩
  | true =>
    have h80 : n ≤ 80 := by
      have := h.1
      unfold few12V at hf
      simp at hf
      omega
    have HF := Lib.hid hf
    clear hf
    go_enter Try.func6, Try.ntmps6
    go_wp2_with fail
    refine (arNew_c _).mono ?_
    rintro e w1 ⟨rfl, hm1, hx1⟩
    have HX1 := Lib.hid hx1
    have HM1 := Lib.hid hm1
    have HA := Lib.hid h
    have HA1 := Lib.hid (h.ext hx1)
    clear hm1 hx1 h
    go_wp2_with fail
    refine (few12_c _ _ _ l _ HA1.out).mono ?_
    rintro e w1' ⟨rfl, rfl⟩
    rw [HF.out]
    go_wp2_with fail
    generalize hp : w.heap.size + 1 = p at HM1 ⊢
    clear hp
    go_loopw [4] (fun i wr => ∃ (k mb : Nat) (S : ASt) (lv : Value), k ≤ n ∧ i = .int .i64 k ∧ ArMem wr w.heap.size p mb lv k S ∧ Ext w wr) (fun i _ => n - (intOf i).toNat)
    case atStart => exact ⟨0, _, _, _, Nat.zero_le _, rfl, HM1.out, HX1.out⟩
    case round =>
      obtain ⟨k, mb, S, lv, hk, rfl, hm, hX⟩ := hrel
      have HM := Lib.hid hm
      have HX := Lib.hid hX
      clear hm hX
      by_cases hlt : k < n
      · obtain ⟨ad, a, A', n', c', rfl, ha, hok, d0, d1, d2, d3, d4, d5, hl', hnc⟩ := HA.out.at_ hlt
        have c0 := HX.out.cell d0
        have c1 := HX.out.cell d1
        have c2 := HX.out.cell d2
        have c3 := HX.out.cell d3
        have c4 := HX.out.cell d4
        have c5 := HX.out.cell d5
        have HOK := Lib.hid hok
        have HL := Lib.hid (hl'.ext HX.out)
        have hout : 0 < n' → Out (ArF p mb lv) A' := fun h0 ad' e hf => by
          have h1 := hl'.old h0 ad' e
          have h2 := (HM.out.lt hf).1
          omega
        clear hok hl' d0 d1 d2 d3 d4 d5
        go_wp2_with fail
        refine (do12_c _ _ p mb lv k S a _ _ _ HM.out HOK.out HL.out hout (by omega)).mono ?_
        rintro e w3 ⟨v, rfl, _, hn⟩
        have HX3 := Lib.hid (ArNext.thr HM.out (Nat.le_refl _) HX.out hn)
        obtain ⟨lv3, mb3, hm3, _, _⟩ := hn
        have HM3 := Lib.hid hm3
        clear hm3
        go_wp2_with fail
        go_round
        case rel => exact ⟨k + 1, _, _, _, by omega, by go_num, HM3.out, HX3.out⟩
        case measure => simp [intOf]; omega
      · have hK : k ≤ 1000 := by omega
        clear hk
        go_wp2_with fail
        refine (arAll_c _ _ p mb lv k S HM.out).mono ?_
        rintro e w2 ⟨vall, rfl, hoa, hx2⟩
        obtain ⟨Aa, na, ca, rfl⟩ := hoa.form
        have hsm := HM.out.sm
        have hRl : (liveR S.rows).length ≤ k := Nat.le_trans (List.length_filter_le _ _) hsm
        have hlen2 := allA_length S.rows
        have hsla := ownI_sl hoa (by omega) (allA_bd HM.out.inv HM.out.len)
        have hna : na = (liveR S.rows).length := by rw [← hlen2]; exact hsla.1.symm
        subst hna
        have HKA := Lib.hid (KInt.new hoa (fun b hb => (HM.out.lt hb).2) : KInt (ArF p mb lv) _ _ _)
        have HAB := Lib.hid (allA_bd HM.out.inv HM.out.len)
        have HX2 := Lib.hid (HX.out.trans hx2)
        have HM2 := Lib.hid (HM.out.ext hx2)
        have HSL := Lib.hid hsla
        have HFW := Lib.hid (fun (b : Nat) (hb : ArF p mb lv b) => (HM.out.lt hb).2)
        have HS2 := Lib.hid hx2.size_le
        obtain ⟨R, hR⟩ : ∃ R, liveR S.rows = R := ⟨_, rfl⟩
        have HR := Lib.hid hR
        have HLA := Lib.hid hlen2
        rw [hR] at hRl HSL HKA HLA
        have HOB : Hid (∀ j, offA R j ≤ 1003000000) := by
          refine Lib.hid fun j => ?_
          have h1 := HM.out.len
          have h2 := live_flat_le S.rows
          rw [hR] at h2
          have h3 := offA_le (R := R) (j := j)
          omega
        have HRK : Hid (∀ (j : Nat) (r : ARow), R[j]? = some r → r.lits.length ≤ 1000 ∧ ∀ x ∈ r.lits, -9223372036854775808 ≤ x ∧ x ≤ 9223372036854775807) := by
          refine Lib.hid fun j r hr => ?_
          rw [← hR] at hr
          obtain ⟨i, hi, _⟩ := live_at hr
          obtain ⟨_, h1, h2⟩ := HM.out.inv.ok r (List.mem_of_getElem? hi)
          exact ⟨h1, fun x hx => by have := h2 x hx; omega⟩
        have HLP : Hid (∀ (j : Nat) (r : ARow), R[j]? = some r → (allA S.rows)[j]? = some r.pos ∧ (offA R j : Int) ≤ r.pos) := by
          refine Lib.hid fun j r hr => ?_
          rw [← hR] at hr ⊢
          exact ⟨by rw [allA_at, hr]; rfl, off_le_pos HM.out.inv hr⟩
        have HK3 := Lib.hid (keep3_start S)
        rw [hR] at HK3
        rw [hR]
        clear hoa hx2 hR hsm hlen2 hsla
        go_wp2_with fail
        go_loopw [6, 7, 8] (fun vr sm i wj => ∃ j : Nat, j ≤ R.length ∧ i = .int .i64 j ∧ sm = .int .i64 (offA R j : Nat) ∧ RowsK (ArF p mb lv) wj vr (R.take j) ∧ (∀ b, vr.ownBlock = some b → w2.heap.size ≤ b) ∧ Ext w2 wj) (fun _ _ i _ => R.length - (intOf i).toNat)
        case atStart => exact ⟨0, Nat.zero_le _, rfl, by rw [offA_zero]; rfl, by simp; exact RowsK.nil _ _, fun b hb => (by cases hb), Ext.refl _⟩
        case round =>
          obtain ⟨j, hj, rfl, rfl, hK2, hvb2, hXj⟩ := hrel
          have HK := Lib.hid hK2
          have HXj := Lib.hid hXj
          clear hK2 hXj
          by_cases hjl : j < R.length
          · have hjr : R[j]? = some R[j] := List.getElem?_eq_getElem hjl
            generalize R[j] = r at hjr
            have hgx := allA_at S.rows j
            rw [HR.out, hjr] at hgx
            have hgx : (allA S.rows)[j]? = some r.pos := hgx
            have FD := Lib.hid (find_live HM2.out.inv (by rw [HR.out]; exact hjr))
            obtain ⟨ad, x, rfl, hx, hcx, hxb⟩ := HSL.out.at_ hjl
            obtain rfl : x = r.pos := Option.some.inj (hx.symm.trans hgx)
            have PB := Lib.hid (HSL.out.2.2.1 _ (List.mem_of_getElem? hgx))
            have HC := Lib.hid (HXj.out.cell hcx)
            have HMj := Lib.hid (HM2.out.ext HXj.out)
            have HJR := Lib.hid hjr
            clear hgx hx hcx hjr
            go_wp2_with fail
            go_cut [9] (fun s wx => ∃ (g : Nat) (A1 : Option Addr) (n1 c1 : Nat), s = .pointer (some ⟨g, 0, none⟩) ∧ wr.heap.size ≤ g ∧ Blk wx g 72 #[.int .i64 0, .int .i64 r.id, .slice A1 n1 c1, .bool r.learnt, .bool false] ∧ OwnI wx wr.heap.size (.slice A1 n1 c1) r.lits ∧ Ext wr wx)
            case first =>
              refine wp_region_lastS (SpecS (base14 p j R.length ca ad) (reg14 p j R.length ca wr.heap.size ad r.pos r.id r.lits r.learnt)) 72 9 62 (by kernel_rfl) (by kernel_rfl) (by kernel_rfl) (by kernel_rfl) (by kernel_rfl) (by kernel_rfl) (by kernel_rfl) (by simp) (by simp) SpecS.ext (SpecS.start (by kernel_rfl) ?_) ?_ ?_
              · exact lookup_all (by simp [base14, Spec.holds])
              · simp only [List.forall_mem_cons]
                repeat' apply And.intro
                · intro _
                  refine rop_on [3] (by kernel_rfl) none (by kernel_rfl) (fun k b hk => by cases hk) (fun K a W hK hx hl => ?_)
                  have e3 : a.tmps.getD 3 undef = .pointer (some ⟨p, 0, none⟩) := (hl 3 (by decide)).1 _ rfl
                  exact rop_val (v := .pointer (some ⟨p, 0, none⟩)) (by go_simp) (hK _ _ (fun t ht => by cases ht; exact spec_new rfl rfl rfl) (Ext.refl _))
                · intro _
                  refine rop_on [5] (by kernel_rfl) none (by kernel_rfl) (fun k b hk => by cases hk) (fun K a W hK hx hl => ?_)
                  have e5 : a.tmps.getD 5 undef = .slice (some ad) R.length ca := (hl 5 (by decide)).1 _ rfl
                  exact rop_val (v := .slice (some ad) R.length ca) (by go_simp) (hK _ _ (fun t ht => by cases ht; exact spec_new rfl rfl rfl) (Ext.refl _))
                · intro _
                  refine rop_on [8] (by kernel_rfl) none (by kernel_rfl) (fun k b hk => by cases hk) (fun K a W hK hx hl => ?_)
                  have e8 : a.tmps.getD 8 undef = .int .i64 j := (hl 8 (by decide)).1 _ rfl
                  exact rop_val (v := .int .i64 j) (by go_simp) (hK _ _ (fun t ht => by cases ht; exact spec_new rfl rfl rfl) (Ext.refl _))
                · intro _
                  refine rop_on [45, 46] (by kernel_rfl) none (by kernel_rfl) (fun k b hk => by cases hk) (fun K a W hK hx hl => ?_)
                  have e45 : a.tmps.getD 45 undef = .slice (some ad) R.length ca := (hl 45 (by decide)).2 _ rfl
                  have e46 : a.tmps.getD 46 undef = .int .i64 j := (hl 46 (by decide)).2 _ rfl
                  exact rop_val (v := .pointer (some (ad.add j))) (by go_simp) (hK _ _ (fun t ht => by cases ht; exact spec_new rfl rfl rfl) (Ext.refl _))
                · intro _
                  refine rop_on [47] (by kernel_rfl) none (by kernel_rfl) (fun k b hk => by cases hk) (fun K a W hK hx hl => ?_)
                  have e47 : a.tmps.getD 47 undef = .pointer (some (ad.add j)) := (hl 47 (by decide)).2 _ rfl
                  have z0 := hx.cell HC.out
                  exact rop_val (v := .int .i64 r.pos) (by go_simp) (hK _ _ (fun t ht => by cases ht; exact spec_new rfl rfl rfl) (Ext.refl _))
                · intro _
                  refine rop_on [44, 48] (by kernel_rfl) none (by kernel_rfl) (fun k b hk => by cases hk) (fun K a W hK hx hl => ?_)
                  have e44 : a.tmps.getD 44 undef = .pointer (some ⟨p, 0, none⟩) := (hl 44 (by decide)).2 _ rfl
                  have e48 : a.tmps.getD 48 undef = .int .i64 r.pos := (hl 48 (by decide)).2 _ rfl
                  unfold Oper.wp
                  rw [show (execOp a.eval _).run Try.prog W = .ok (.enter 30 #[.pointer (some ⟨p, 0, none⟩), .int .i64 r.pos]) W from by go_simp, Oper.upon_enter]
                  refine (arId_c _ _ p mb lv k S r.pos (HMj.out.ext hx) PB.out).mono ?_
                  rintro e w1 ⟨rfl, rfl⟩
                  rw [headA_of FD.out]
                  exact hK _ _ (fun t ht => by cases ht; exact spec_new rfl rfl rfl) (Ext.refl _)
                · intro _
                  refine rop_on [3] (by kernel_rfl) none (by kernel_rfl) (fun k b hk => by cases hk) (fun K a W hK hx hl => ?_)
                  have e3 : a.tmps.getD 3 undef = .pointer (some ⟨p, 0, none⟩) := (hl 3 (by decide)).1 _ rfl
                  exact rop_val (v := .pointer (some ⟨p, 0, none⟩)) (by go_simp) (hK _ _ (fun t ht => by cases ht; exact spec_new rfl rfl rfl) (Ext.refl _))
                · intro _
                  refine rop_on [5] (by kernel_rfl) none (by kernel_rfl) (fun k b hk => by cases hk) (fun K a W hK hx hl => ?_)
                  have e5 : a.tmps.getD 5 undef = .slice (some ad) R.length ca := (hl 5 (by decide)).1 _ rfl
                  exact rop_val (v := .slice (some ad) R.length ca) (by go_simp) (hK _ _ (fun t ht => by cases ht; exact spec_new rfl rfl rfl) (Ext.refl _))
                · intro _
                  refine rop_on [8] (by kernel_rfl) none (by kernel_rfl) (fun k b hk => by cases hk) (fun K a W hK hx hl => ?_)
                  have e8 : a.tmps.getD 8 undef = .int .i64 j := (hl 8 (by decide)).1 _ rfl
                  exact rop_val (v := .int .i64 j) (by go_simp) (hK _ _ (fun t ht => by cases ht; exact spec_new rfl rfl rfl) (Ext.refl _))
                · intro _
                  refine rop_on [51, 52] (by kernel_rfl) none (by kernel_rfl) (fun k b hk => by cases hk) (fun K a W hK hx hl => ?_)
                  have e51 : a.tmps.getD 51 undef = .slice (some ad) R.length ca := (hl 51 (by decide)).2 _ rfl
                  have e52 : a.tmps.getD 52 undef = .int .i64 j := (hl 52 (by decide)).2 _ rfl
                  exact rop_val (v := .pointer (some (ad.add j))) (by go_simp) (hK _ _ (fun t ht => by cases ht; exact spec_new rfl rfl rfl) (Ext.refl _))
                · intro _
                  refine rop_on [53] (by kernel_rfl) none (by kernel_rfl) (fun k b hk => by cases hk) (fun K a W hK hx hl => ?_)
                  have e53 : a.tmps.getD 53 undef = .pointer (some (ad.add j)) := (hl 53 (by decide)).2 _ rfl
                  have z0 := hx.cell HC.out
                  exact rop_val (v := .int .i64 r.pos) (by go_simp) (hK _ _ (fun t ht => by cases ht; exact spec_new rfl rfl rfl) (Ext.refl _))
                · intro _
                  refine rop_on [50, 54] (by kernel_rfl) none (by kernel_rfl) (fun k b hk => by cases hk) (fun K a W hK hx hl => ?_)
                  have e50 : a.tmps.getD 50 undef = .pointer (some ⟨p, 0, none⟩) := (hl 50 (by decide)).2 _ rfl
                  have e54 : a.tmps.getD 54 undef = .int .i64 r.pos := (hl 54 (by decide)).2 _ rfl
                  unfold Oper.wp
                  rw [show (execOp a.eval _).run Try.prog W = .ok (.enter 31 #[.pointer (some ⟨p, 0, none⟩), .int .i64 r.pos]) W from by go_simp, Oper.upon_enter]
                  refine (arLits_c _ _ p mb lv k S r.pos (HMj.out.ext hx) PB.out).mono ?_
                  rintro e w1 ⟨v1, rfl, ho1, hx1⟩
                  rw [litsA_of FD.out] at ho1
                  obtain ⟨A1, n1, c1, rfl⟩ := ho1.form
                  exact hK _ _ (fun t ht => by cases ht; exact spec_new rfl rfl ⟨A1, n1, c1, rfl, ho1.less hx.size_le⟩) hx1
                · intro _
                  refine rop_on [3] (by kernel_rfl) none (by kernel_rfl) (fun k b hk => by cases hk) (fun K a W hK hx hl => ?_)
                  have e3 : a.tmps.getD 3 undef = .pointer (some ⟨p, 0, none⟩) := (hl 3 (by decide)).1 _ rfl
                  exact rop_val (v := .pointer (some ⟨p, 0, none⟩)) (by go_simp) (hK _ _ (fun t ht => by cases ht; exact spec_new rfl rfl rfl) (Ext.refl _))
                · intro _
                  refine rop_on [5] (by kernel_rfl) none (by kernel_rfl) (fun k b hk => by cases hk) (fun K a W hK hx hl => ?_)
                  have e5 : a.tmps.getD 5 undef = .slice (some ad) R.length ca := (hl 5 (by decide)).1 _ rfl
                  exact rop_val (v := .slice (some ad) R.length ca) (by go_simp) (hK _ _ (fun t ht => by cases ht; exact spec_new rfl rfl rfl) (Ext.refl _))
                · intro _
                  refine rop_on [8] (by kernel_rfl) none (by kernel_rfl) (fun k b hk => by cases hk) (fun K a W hK hx hl => ?_)
                  have e8 : a.tmps.getD 8 undef = .int .i64 j := (hl 8 (by decide)).1 _ rfl
                  exact rop_val (v := .int .i64 j) (by go_simp) (hK _ _ (fun t ht => by cases ht; exact spec_new rfl rfl rfl) (Ext.refl _))
                · intro _
                  refine rop_on [57, 58] (by kernel_rfl) none (by kernel_rfl) (fun k b hk => by cases hk) (fun K a W hK hx hl => ?_)
                  have e57 : a.tmps.getD 57 undef = .slice (some ad) R.length ca := (hl 57 (by decide)).2 _ rfl
                  have e58 : a.tmps.getD 58 undef = .int .i64 j := (hl 58 (by decide)).2 _ rfl
                  exact rop_val (v := .pointer (some (ad.add j))) (by go_simp) (hK _ _ (fun t ht => by cases ht; exact spec_new rfl rfl rfl) (Ext.refl _))
                · intro _
                  refine rop_on [59] (by kernel_rfl) none (by kernel_rfl) (fun k b hk => by cases hk) (fun K a W hK hx hl => ?_)
                  have e59 : a.tmps.getD 59 undef = .pointer (some (ad.add j)) := (hl 59 (by decide)).2 _ rfl
                  have z0 := hx.cell HC.out
                  exact rop_val (v := .int .i64 r.pos) (by go_simp) (hK _ _ (fun t ht => by cases ht; exact spec_new rfl rfl rfl) (Ext.refl _))
                · intro _
                  refine rop_on [56, 60] (by kernel_rfl) none (by kernel_rfl) (fun k b hk => by cases hk) (fun K a W hK hx hl => ?_)
                  have e56 : a.tmps.getD 56 undef = .pointer (some ⟨p, 0, none⟩) := (hl 56 (by decide)).2 _ rfl
                  have e60 : a.tmps.getD 60 undef = .int .i64 r.pos := (hl 60 (by decide)).2 _ rfl
                  unfold Oper.wp
                  rw [show (execOp a.eval _).run Try.prog W = .ok (.enter 32 #[.pointer (some ⟨p, 0, none⟩), .int .i64 r.pos]) W from by go_simp, Oper.upon_enter]
                  refine (arLearnt_c _ _ p mb lv k S r.pos (HMj.out.ext hx) PB.out).mono ?_
                  rintro e w1 ⟨rfl, rfl⟩
                  rw [learntA_of FD.out]
                  exact hK _ _ (fun t ht => by cases ht; exact spec_new rfl rfl rfl) (Ext.refl _)
                · intro _
                  refine rop_on [49, 55, 61] (by kernel_rfl) none (by kernel_rfl) (fun k b hk => by cases hk) (fun K a W hK hx hl => ?_)
                  have e49 : a.tmps.getD 49 undef = .int .i64 r.id := (hl 49 (by decide)).2 _ rfl
                  obtain ⟨A1, n1, c1, e55, h55⟩ := (hl 55 (by decide)).2 _ rfl
                  have e61 : a.tmps.getD 61 undef = .bool r.learnt := (hl 61 (by decide)).2 _ rfl
                  have e49' : a.tmps[49]?.getD undef = .int .i64 r.id := by simpa using e49
                  have e55' : a.tmps[55]?.getD undef = .slice A1 n1 c1 := by simpa using e55
                  have e61' : a.tmps[61]?.getD undef = .bool r.learnt := by simpa using e61
                  exact rop_val (v := .agg #[.int .i64 0, .int .i64 r.id, .slice A1 n1 c1, .bool r.learnt, .bool false]) (by go_simp) (hK _ _ (fun t ht => by cases ht; exact spec_new rfl rfl ⟨A1, n1, c1, rfl, h55⟩) (Ext.refl _))
                · intro _
                  refine rop_on [] (by kernel_rfl) none (by kernel_rfl) (fun k b hk => by cases hk) (fun K a W hK hx hl => ?_)
                  exact rop_val2 (v := .pointer (some ⟨W.heap.size, 0, none⟩)) (w' := W.alloc (.cells #[.int .i64 0, .int .i64 0, .slice none 0 0, .bool false, .bool false] 72)) (by go_simp) (hK _ _ (fun t ht => by cases ht; exact spec_new rfl rfl ⟨_, rfl, hx.size_le, Blk.new W _ _⟩) ((Ext.refl W).alloc _))
                · intro hn; cases hn
                · intro x hx; cases hx
              · intro vf wx hx hv
                obtain ⟨g, e9, hg9, hb9⟩ := (hv 9 (by kernel_rfl)).2 _ rfl
                obtain ⟨A1, n1, c1, e62, ho1⟩ := (hv 62 (by kernel_rfl)).2 _ rfl
                refine ⟨g, _, _, _, e9, e62, hb9, rfl, by kernel_rfl, by simp [Value.oneCell'], fun wy hb hgr => ?_⟩
                simp only [fill, List.foldl_cons, List.foldl_nil, List.setIfInBounds_toArray, List.set_cons_zero, List.set_cons_succ]
                rw [e9]
                go_wp2_with fail
                go_meet
                exact ⟨g, A1, n1, c1, rfl, hg9, hb, ho1.kept hgr (Or.inr (ho1.ne_blk hb9 (by decide))), hx.grown hgr (fun k hk => by cases hk; exact hg9)⟩
            case rest =>
              obtain ⟨g, A1, n1, c1, rfl, hg9, hb9, ho1, hx1⟩ := hcut
              have z0 := hb9.cell 0
              have z1 := hb9.cell 1
              have z2 := hb9.cell 2
              have z3 := hb9.cell 3
              have z4 := hb9.cell 4
              simp at z0 z1 z2 z3 z4
              have hn1 := ho1.slen
              have hvb := HK.out.blk
              obtain ⟨us, hu1, hu2, hu3, hu4⟩ := HK.out.ext hx1
              have hlj : (R.take j).length = j := by rw [List.length_take]; omega
              rw [hlj] at hu1 hu2
              obtain ⟨A6, c6, rfl, hc6⟩ := hu2.len
              have hlj' := Lib.hid hlj
              clear hlj
              have HU2 := Lib.hid hu2
              have HO1 := Lib.hid ho1
              have HB9 := Lib.hid hb9
              clear hu2 ho1 hb9
              go_wp2_with (at_builtin; refine appendV elt12 _ rfl (.tmp 63) (.tmp 65) rfl 0 _ _ _ rfl (OwnV.alloc HU2.out _) _ _ _ _ rfl (SlV.new1K _ _ _) (by intro u hu; simp at hu; rcases hu with rfl | rfl | rfl | rfl | rfl <;> rfl) (by omega) (by simp) ?_; intro v4 w4 ho4 hg4 hloc; obtain ⟨A4, n4, c4, rfl⟩ := OwnV.form ho4; have HO4 := Lib.hid ho4; have HG4 := Lib.hid hg4; have HL4 := Lib.hid hloc; have y2 := ((HB9.out.alloc _).grown hg4 (fun e => by have := hvb _ e.symm; omega)).cell 2; simp at y2; clear ho4 hg4 hloc)
              have hn1' : n1 = r.lits.length := by simpa [slen] using hn1
              have hoff : offA R j + (3 + r.lits.length) ≤ 1003000000 := by
                rw [← offA_succ HJR.out]
                have h1 := HM2.out.len
                have h2 := live_flat_le S.rows
                rw [HR.out] at h2
                have h3 := offA_le (R := R) (j := j + 1)
                omega
              go_roundw
              case rel =>
                refine ⟨j + 1, by omega, by go_num, ?_, ?_, ?_, ?_⟩
                · rw [offA_succ HJR.out, hn1']
                  rw [IntWalk.wrap64_in (3 + (r.lits.length : Int)) (by omega), IntWalk.wrap64_in _ (by omega)]
                  congr 1
                · rw [take_succ_of HJR.out]
                  have hFb : ∀ b, ArF p mb lv b → b < wr.heap.size := fun b hb => by have := (HM2.out.lt hb).2; have := HXj.out.size_le; omega
                  have h4 := HO4.out
                  rw [← hlj'.out] at h4
                  exact rowsK_app (wr := wr) (w1 := wc.alloc _) hFb (by rw [hlj'.out]; exact hu1) (by rw [hlj'.out]; exact OwnV.alloc HU2.out _) hu3 (fun j r q hr hq => (hu4 j r q hr hq).stay ((Ext.stay (Ext.refl _)).alloc _)) (HO1.out.alloc _) h4 HG4.out HL4.out (by have := hx1.size_le; simp; omega)
                · intro b hb
                  rcases HL4.out with e | e
                  · rw [e] at hb; exact hvb2 b hb
                  · rw [e] at hb; cases hb; have := hx1.size_le; have := HXj.out.size_le; simp; omega
                · exact ((HXj.out.trans hx1).alloc _).grown HG4.out hvb2
              case measure => simp [intOf]; omega
          · obtain rfl : j = R.length := by omega
            have hkr := HK.out
            rw [List.take_length] at hkr
            obtain ⟨A6, c6, rfl, hc6⟩ := hkr.len
            have HKR := Lib.hid hkr
            have HMj := Lib.hid (HM2.out.ext HXj.out)
            have HKAj := Lib.hid (HKA.out.ext HXj.out)
            have HXwj := Lib.hid (HX2.out.trans HXj.out)
            clear hkr hjl HK HKA HSL
            go_wp2_with fail
            refine (arCompact_c _ _ p mb lv k S HMj.out (by omega)).mono ?_
            rintro e w5 ⟨vw, rfl, how, hnv⟩
            have HX5 := Lib.hid (ArNext.thr HMj.out (Nat.le_refl _) HXwj.out hnv.next)
            obtain ⟨lv5, mb5, hm5, hs5, hn5, hnv5⟩ := hnv
            obtain ⟨Aw, nw, cw, rfl⟩ := how.form
            have hsw := ownI_sl how (by rw [HLA.out]; omega) HAB.out
            obtain rfl : nw = R.length := by rw [← HLA.out]; exact hsw.1.symm
            have kw5 : KInt (ArF p mb5 lv5) w5 (.slice Aw R.length cw) (allA S.rows) := ⟨how.less (Nat.zero_le _), hnv5⟩
            have KW5 := Lib.hid kw5
            have ka5 := HKAj.out.next hs5 hn5
            have hsa := ownI_sl ka5.1 (by rw [HLA.out]; omega) HAB.out
            have KR5 := Lib.hid (HKR.out.next hs5 hn5)
            have HM5 := Lib.hid hm5
            have HSW := Lib.hid hsw
            have HSA := Lib.hid hsa
            clear how hs5 hn5 hnv5 hm5 hsw ka5 kw5 hsa HKAj HKR HMj
            go_wp2_with fail
            refine (arAll_c _ _ p mb5 lv5 (k + 1) (compS S) HM5.out).mono ?_
            rintro e w6 ⟨vn, rfl, hon, hx6⟩
            obtain ⟨An, nn, cn, rfl⟩ := hon.form
            have hnl := HK3.out.all_len
            have hnb := allA_bd HM5.out.inv HM5.out.len
            have hsn := ownI_sl hon (by rw [hnl]; omega) hnb
            obtain rfl : nn = R.length := by rw [← hnl]; exact hsn.1.symm
            have KN6 := Lib.hid (KInt.new hon (fun b hb => (HM5.out.lt hb).2) : KInt (ArF p mb5 lv5) w6 _ _)
            have HNP : Hid (∀ (j : Nat) (r : ARow), R[j]? = some r → (allA (compS S).rows)[j]? = some (offA R j : Int)) := Lib.hid fun j r hr => HK3.out.all_get hr
            have HNB := Lib.hid hnb
            have HNL := Lib.hid hnl
            have HX6 := Lib.hid hx6
            clear hon hnl hnb hsn hx6
            generalize hNL : allA (compS S).rows = NL at KN6 HNP HNB HNL
            clear hNL
            go_wp2_with fail
            refine (same_c _ _ _ (allA S.rows) _ _ _ (allA S.rows) _ (HSW.out.ext HX6.out) (HSA.out.ext HX6.out)).mono ?_
            rintro e w7 ⟨rfl, hx7⟩
            have HX7 := Lib.hid hx7
            clear hx7
            rw [sameV_refl12]
            go_wp2_with fail
            refine (arSize_c _ _ p mb5 lv5 (k + 1) (compS S) (HM5.out.ext (HX6.out.trans HX7.out))).mono ?_
            rintro e w7' ⟨rfl, rfl⟩
            rw [compS_size, HR.out]
            go_wp2_with fail
            go_loopw [12, 13, 14] (fun i _ _ wl => ∃ (q K mb3 : Nat) (lv3 : Value) (T : ASt), q ≤ R.length ∧ K ≤ k + 1 + q ∧ i = .int .i64 q ∧ Keep3 R q T ∧ ArMem wl w.heap.size p mb3 lv3 K T ∧ RowsK (ArF p mb3 lv3) wl (.slice A6 R.length c6) R ∧ KInt (ArF p mb3 lv3) wl (.slice An R.length cn) NL ∧ KInt (ArF p mb3 lv3) wl (.slice Aw R.length cw) (allA S.rows) ∧ Ext w wl) (fun i _ _ _ => R.length - (intOf i).toNat)
            case atStart => exact ⟨0, _, _, _, _, Nat.zero_le _, Nat.le_refl _, rfl, HK3.out, HM5.out.ext (HX6.out.trans HX7.out), KR5.out.ext (HX6.out.trans HX7.out), KN6.out.ext HX7.out, KW5.out.ext (HX6.out.trans HX7.out), HX5.out.trans (HX6.out.trans HX7.out)⟩
            case round =>
              clear KR5 HM5 HSW HSA KN6 KW5 HX5 HX6 HX7 HM2 HX2 HXj HXwj
              obtain ⟨q, K, mb3, lv3, T, hq, hKq, rfl, hkeep, hmT, hkr, hkn, hkw, hxw⟩ := hrel
              have HKP := Lib.hid hkeep
              have HMT := Lib.hid hmT
              have HKR := Lib.hid hkr
              have HKN := Lib.hid hkn
              have HKW := Lib.hid hkw
              have HXW := Lib.hid hxw
              clear hkeep hmT hkr hkn hkw hxw
              by_cases hql : q < R.length
              · have hjr : R[q]? = some R[q] := List.getElem?_eq_getElem hql
                generalize R[q] = r at hjr
                have RB := Lib.hid (HRK.out q r hjr)
                have hlp := HLP.out q r hjr
                have hnp := HNP.out q r hjr
                have hob := HOB.out q
                obtain ⟨r', _, hf1, hf2, hf3, hf4⟩ := HKP.out.find HMT.out.inv hjr
                obtain ⟨adr, ⟨kid, kA, kn, kc, kl⟩, rfl, ⟨hk1, hk2, hk3, hk4⟩, k0, k1, k2, k3, k4⟩ := HKR.out.at_ (by omega) hjr
                obtain rfl : kid = r.id := hk1
                obtain rfl : kl = r.learnt := hk2
                have KSL := Lib.hid (ownI_sl hk3 (by have := RB.out.1; omega) RB.out.2)
                have hsn := ownI_sl HKN.out.1 (by rw [HNL.out]; omega) HNB.out
                have hsw := ownI_sl HKW.out.1 (by rw [HLA.out]; omega) HAB.out
                obtain ⟨adn, xn, rfl, hxn, hcn, _⟩ := hsn.at_ hql
                obtain ⟨adw, xw, rfl, hxw, hcw, hwb⟩ := hsw.at_ hql
                obtain rfl : xn = (offA R q : Int) := Option.some.inj (hxn.out.symm.trans hnp)
                obtain rfl : xw = r.pos := Option.some.inj (hxw.out.symm.trans hlp.1)
                have hgt := hlp.2
                have hkeepS := fun hl => HKP.out.swap2 HMT.out.inv hjr hl
                generalize offA R q = xo at hcn hgt hob hf1 hkeepS hnp
                have hd : decide (r.pos < (xo : Int)) = false := decide_eq_false (by omega)
                have XB : Hid (-9223372036854775808 ≤ (xo : Int) ∧ (xo : Int) ≤ 9223372036854775807) := Lib.hid ⟨by omega, by omega⟩
                have FD3 := Lib.hid (⟨hf1, hf2, hf3, hf4 (Nat.le_refl _)⟩ : T.rows.find? (atP (xo : Nat)) = some r' ∧ r'.id = r.id ∧ r'.learnt = r.learnt ∧ r'.lits = r.lits)
                have HKS := Lib.hid hkeepS
                have HNQ := Lib.hid hnp
                have HCN := Lib.hid hcn
                have HCW := Lib.hid hcw
                have HK0 := Lib.hid k0
                have HK1 := Lib.hid k1
                have HK2 := Lib.hid k2
                have HK3 := Lib.hid k3
                have HK4 := Lib.hid k4
                clear hjr hlp hnp hf1 hf2 hf3 hf4 hk3 hk4 k0 k1 k2 k3 k4 hsn hsw hxn hxw hcn hcw hgt hkeepS
                go_wp2_with fail
                go_cut [134] (fun s wx => s = .bool false ∧ Ext wr wx)
                case first =>
                  refine wp_region_invF (SpecS (base24 p q R.length c6 cn cw adr adn adw) (reg24 p q R.length c6 cn cw kn kc xo adr adn adw r.pos r.id kA r.learnt r.lits)) (by kernel_rfl) (by kernel_rfl) SpecS.ext (SpecS.start (by kernel_rfl) ?_) ?_ ?_
                  · exact lookup_all (by simp [base24, Spec.holds])
                  · simp only [List.forall_mem_cons]
                    repeat' apply And.intro
                    · refine rop_on [6] (by kernel_rfl) none (by kernel_rfl) (fun k b hk => by cases hk) (fun K a W hK hx hl => ?_)
                      have e6 : a.tmps.getD 6 undef = .slice (some adr) R.length c6 := (hl 6 (by decide)).1 _ rfl
                      exact rop_val (v := .slice (some adr) R.length c6) (by go_simp) (hK _ _ (fun t ht => by cases ht; exact spec_new rfl rfl rfl) (Ext.refl _))
                    · refine rop_on [12] (by kernel_rfl) none (by kernel_rfl) (fun k b hk => by cases hk) (fun K a W hK hx hl => ?_)
                      have e12 : a.tmps.getD 12 undef = .int .i64 q := (hl 12 (by decide)).1 _ rfl
                      exact rop_val (v := .int .i64 q) (by go_simp) (hK _ _ (fun t ht => by cases ht; exact spec_new rfl rfl rfl) (Ext.refl _))
                    · refine rop_on [100, 101] (by kernel_rfl) none (by kernel_rfl) (fun k b hk => by cases hk) (fun K a W hK hx hl => ?_)
                      have e100 : a.tmps.getD 100 undef = .slice (some adr) R.length c6 := (hl 100 (by decide)).2 _ rfl
                      have e101 : a.tmps.getD 101 undef = .int .i64 q := (hl 101 (by decide)).2 _ rfl
                      exact rop_val (v := .pointer (some (adr.add (q * 5)))) (by go_simp) (hK _ _ (fun t ht => by cases ht; exact spec_new rfl rfl rfl) (Ext.refl _))
                    · refine rop_on [102] (by kernel_rfl) none (by kernel_rfl) (fun k b hk => by cases hk) (fun K a W hK hx hl => ?_)
                      have e102 : a.tmps.getD 102 undef = .pointer (some (adr.add (q * 5))) := (hl 102 (by decide)).2 _ rfl
                      have z0 := hx.cell HK0.out
                      have z1 := hx.cell HK1.out
                      have z2 := hx.cell HK2.out
                      have z3 := hx.cell HK3.out
                      have z4 := hx.cell HK4.out
                      exact rop_val (v := .agg #[.int .i64 0, .int .i64 r.id, .slice kA kn kc, .bool r.learnt, .bool false]) (by go_simp) (hK _ _ (fun t ht => by cases ht; exact spec_new rfl rfl rfl) (Ext.refl _))
                    · refine rop_on [3] (by kernel_rfl) none (by kernel_rfl) (fun k b hk => by cases hk) (fun K a W hK hx hl => ?_)
                      have e3 : a.tmps.getD 3 undef = .pointer (some ⟨p, 0, none⟩) := (hl 3 (by decide)).1 _ rfl
                      exact rop_val (v := .pointer (some ⟨p, 0, none⟩)) (by go_simp) (hK _ _ (fun t ht => by cases ht; exact spec_new rfl rfl rfl) (Ext.refl _))
                    · refine rop_on [11] (by kernel_rfl) none (by kernel_rfl) (fun k b hk => by cases hk) (fun K a W hK hx hl => ?_)
                      have e11 : a.tmps.getD 11 undef = .slice (some adn) R.length cn := (hl 11 (by decide)).1 _ rfl
                      exact rop_val (v := .slice (some adn) R.length cn) (by go_simp) (hK _ _ (fun t ht => by cases ht; exact spec_new rfl rfl rfl) (Ext.refl _))
                    · refine rop_on [12] (by kernel_rfl) none (by kernel_rfl) (fun k b hk => by cases hk) (fun K a W hK hx hl => ?_)
                      have e12 : a.tmps.getD 12 undef = .int .i64 q := (hl 12 (by decide)).1 _ rfl
                      exact rop_val (v := .int .i64 q) (by go_simp) (hK _ _ (fun t ht => by cases ht; exact spec_new rfl rfl rfl) (Ext.refl _))
                    · refine rop_on [105, 106] (by kernel_rfl) none (by kernel_rfl) (fun k b hk => by cases hk) (fun K a W hK hx hl => ?_)
                      have e105 : a.tmps.getD 105 undef = .slice (some adn) R.length cn := (hl 105 (by decide)).2 _ rfl
                      have e106 : a.tmps.getD 106 undef = .int .i64 q := (hl 106 (by decide)).2 _ rfl
                      exact rop_val (v := .pointer (some (adn.add q))) (by go_simp) (hK _ _ (fun t ht => by cases ht; exact spec_new rfl rfl rfl) (Ext.refl _))
                    · refine rop_on [107] (by kernel_rfl) none (by kernel_rfl) (fun k b hk => by cases hk) (fun K a W hK hx hl => ?_)
                      have e107 : a.tmps.getD 107 undef = .pointer (some (adn.add q)) := (hl 107 (by decide)).2 _ rfl
                      have z0 := hx.cell HCN.out
                      exact rop_val (v := .int .i64 xo) (by go_simp) (hK _ _ (fun t ht => by cases ht; exact spec_new rfl rfl rfl) (Ext.refl _))
                    · refine rop_on [104, 108] (by kernel_rfl) none (by kernel_rfl) (fun k b hk => by cases hk) (fun K a W hK hx hl => ?_)
                      have e104 : a.tmps.getD 104 undef = .pointer (some ⟨p, 0, none⟩) := (hl 104 (by decide)).2 _ rfl
                      have e108 : a.tmps.getD 108 undef = .int .i64 xo := (hl 108 (by decide)).2 _ rfl
                      unfold Oper.wp
                      rw [show (execOp a.eval _).run Try.prog W = .ok (.enter 30 #[.pointer (some ⟨p, 0, none⟩), .int .i64 xo]) W from by go_simp, Oper.upon_enter]
                      refine (arId_c _ _ p mb3 lv3 _ T xo (HMT.out.ext hx) XB.out).mono ?_
                      rintro e w1 ⟨rfl, rfl⟩
                      rw [headA_of FD3.out.1, FD3.out.2.1]
                      exact hK _ _ (fun t ht => by cases ht; exact spec_new rfl rfl rfl) (Ext.refl _)
                    · refine rop_on [3] (by kernel_rfl) none (by kernel_rfl) (fun k b hk => by cases hk) (fun K a W hK hx hl => ?_)
                      have e3 : a.tmps.getD 3 undef = .pointer (some ⟨p, 0, none⟩) := (hl 3 (by decide)).1 _ rfl
                      exact rop_val (v := .pointer (some ⟨p, 0, none⟩)) (by go_simp) (hK _ _ (fun t ht => by cases ht; exact spec_new rfl rfl rfl) (Ext.refl _))
                    · refine rop_on [11] (by kernel_rfl) none (by kernel_rfl) (fun k b hk => by cases hk) (fun K a W hK hx hl => ?_)
                      have e11 : a.tmps.getD 11 undef = .slice (some adn) R.length cn := (hl 11 (by decide)).1 _ rfl
                      exact rop_val (v := .slice (some adn) R.length cn) (by go_simp) (hK _ _ (fun t ht => by cases ht; exact spec_new rfl rfl rfl) (Ext.refl _))
                    · refine rop_on [12] (by kernel_rfl) none (by kernel_rfl) (fun k b hk => by cases hk) (fun K a W hK hx hl => ?_)
                      have e12 : a.tmps.getD 12 undef = .int .i64 q := (hl 12 (by decide)).1 _ rfl
                      exact rop_val (v := .int .i64 q) (by go_simp) (hK _ _ (fun t ht => by cases ht; exact spec_new rfl rfl rfl) (Ext.refl _))
                    · refine rop_on [111, 112] (by kernel_rfl) none (by kernel_rfl) (fun k b hk => by cases hk) (fun K a W hK hx hl => ?_)
                      have e111 : a.tmps.getD 111 undef = .slice (some adn) R.length cn := (hl 111 (by decide)).2 _ rfl
                      have e112 : a.tmps.getD 112 undef = .int .i64 q := (hl 112 (by decide)).2 _ rfl
                      exact rop_val (v := .pointer (some (adn.add q))) (by go_simp) (hK _ _ (fun t ht => by cases ht; exact spec_new rfl rfl rfl) (Ext.refl _))
                    · refine rop_on [113] (by kernel_rfl) none (by kernel_rfl) (fun k b hk => by cases hk) (fun K a W hK hx hl => ?_)
                      have e113 : a.tmps.getD 113 undef = .pointer (some (adn.add q)) := (hl 113 (by decide)).2 _ rfl
                      have z0 := hx.cell HCN.out
                      exact rop_val (v := .int .i64 xo) (by go_simp) (hK _ _ (fun t ht => by cases ht; exact spec_new rfl rfl rfl) (Ext.refl _))
                    · refine rop_on [110, 114] (by kernel_rfl) none (by kernel_rfl) (fun k b hk => by cases hk) (fun K a W hK hx hl => ?_)
                      have e110 : a.tmps.getD 110 undef = .pointer (some ⟨p, 0, none⟩) := (hl 110 (by decide)).2 _ rfl
                      have e114 : a.tmps.getD 114 undef = .int .i64 xo := (hl 114 (by decide)).2 _ rfl
                      unfold Oper.wp
                      rw [show (execOp a.eval _).run Try.prog W = .ok (.enter 31 #[.pointer (some ⟨p, 0, none⟩), .int .i64 xo]) W from by go_simp, Oper.upon_enter]
                      refine (arLits_c _ _ p mb3 lv3 _ T xo (HMT.out.ext hx) XB.out).mono ?_
                      rintro e w1 ⟨v1, rfl, ho1, hx1⟩
                      rw [litsA_of FD3.out.1, FD3.out.2.2.2] at ho1
                      obtain ⟨A1, n1, c1, rfl⟩ := ho1.form
                      exact hK _ _ (fun t ht => by cases ht; exact spec_new rfl rfl ⟨A1, n1, c1, rfl, ownI_sl ho1 (by have := RB.out.1; omega) RB.out.2⟩) hx1
                    · refine rop_on [3] (by kernel_rfl) none (by kernel_rfl) (fun k b hk => by cases hk) (fun K a W hK hx hl => ?_)
                      have e3 : a.tmps.getD 3 undef = .pointer (some ⟨p, 0, none⟩) := (hl 3 (by decide)).1 _ rfl
                      exact rop_val (v := .pointer (some ⟨p, 0, none⟩)) (by go_simp) (hK _ _ (fun t ht => by cases ht; exact spec_new rfl rfl rfl) (Ext.refl _))
                    · refine rop_on [11] (by kernel_rfl) none (by kernel_rfl) (fun k b hk => by cases hk) (fun K a W hK hx hl => ?_)
                      have e11 : a.tmps.getD 11 undef = .slice (some adn) R.length cn := (hl 11 (by decide)).1 _ rfl
                      exact rop_val (v := .slice (some adn) R.length cn) (by go_simp) (hK _ _ (fun t ht => by cases ht; exact spec_new rfl rfl rfl) (Ext.refl _))
                    · refine rop_on [12] (by kernel_rfl) none (by kernel_rfl) (fun k b hk => by cases hk) (fun K a W hK hx hl => ?_)
                      have e12 : a.tmps.getD 12 undef = .int .i64 q := (hl 12 (by decide)).1 _ rfl
                      exact rop_val (v := .int .i64 q) (by go_simp) (hK _ _ (fun t ht => by cases ht; exact spec_new rfl rfl rfl) (Ext.refl _))
                    · refine rop_on [117, 118] (by kernel_rfl) none (by kernel_rfl) (fun k b hk => by cases hk) (fun K a W hK hx hl => ?_)
                      have e117 : a.tmps.getD 117 undef = .slice (some adn) R.length cn := (hl 117 (by decide)).2 _ rfl
                      have e118 : a.tmps.getD 118 undef = .int .i64 q := (hl 118 (by decide)).2 _ rfl
                      exact rop_val (v := .pointer (some (adn.add q))) (by go_simp) (hK _ _ (fun t ht => by cases ht; exact spec_new rfl rfl rfl) (Ext.refl _))
                    · refine rop_on [119] (by kernel_rfl) none (by kernel_rfl) (fun k b hk => by cases hk) (fun K a W hK hx hl => ?_)
                      have e119 : a.tmps.getD 119 undef = .pointer (some (adn.add q)) := (hl 119 (by decide)).2 _ rfl
                      have z0 := hx.cell HCN.out
                      exact rop_val (v := .int .i64 xo) (by go_simp) (hK _ _ (fun t ht => by cases ht; exact spec_new rfl rfl rfl) (Ext.refl _))
                    · refine rop_on [116, 120] (by kernel_rfl) none (by kernel_rfl) (fun k b hk => by cases hk) (fun K a W hK hx hl => ?_)
                      have e116 : a.tmps.getD 116 undef = .pointer (some ⟨p, 0, none⟩) := (hl 116 (by decide)).2 _ rfl
                      have e120 : a.tmps.getD 120 undef = .int .i64 xo := (hl 120 (by decide)).2 _ rfl
                      unfold Oper.wp
                      rw [show (execOp a.eval _).run Try.prog W = .ok (.enter 32 #[.pointer (some ⟨p, 0, none⟩), .int .i64 xo]) W from by go_simp, Oper.upon_enter]
                      refine (arLearnt_c _ _ p mb3 lv3 _ T xo (HMT.out.ext hx) XB.out).mono ?_
                      rintro e w1 ⟨rfl, rfl⟩
                      rw [learntA_of FD3.out.1, FD3.out.2.2.1]
                      exact hK _ _ (fun t ht => by cases ht; exact spec_new rfl rfl rfl) (Ext.refl _)
                    · refine rop_on [103, 109, 115, 121] (by kernel_rfl) none (by kernel_rfl) (fun k b hk => by cases hk) (fun K a W hK hx hl => ?_)
                      have e103 : a.tmps.getD 103 undef = .agg #[.int .i64 0, .int .i64 r.id, .slice kA kn kc, .bool r.learnt, .bool false] := (hl 103 (by decide)).2 _ rfl
                      have e109 : a.tmps.getD 109 undef = .int .i64 r.id := (hl 109 (by decide)).2 _ rfl
                      obtain ⟨A115_, n115_, c115_, e115, h115⟩ := (hl 115 (by decide)).2 _ rfl
                      have e121 : a.tmps.getD 121 undef = .bool r.learnt := (hl 121 (by decide)).2 _ rfl
                      unfold Oper.wp
                      rw [show (execOp a.eval _).run Try.prog W = .ok (.enter 38 #[.agg #[.int .i64 0, .int .i64 r.id, .slice kA kn kc, .bool r.learnt, .bool false], .int .i64 r.id, .slice A115_ n115_ c115_, .bool r.learnt]) W from by go_simp, Oper.upon_enter]
                      refine (sameRow_c _ 0 r.id kA kn kc _ _ _ r.lits r.learnt false (KSL.out.ext hx) h115).mono ?_
                      rintro e w1 ⟨rfl, hx1⟩
                      exact hK _ _ (fun t ht => by cases ht; exact spec_new rfl rfl rfl) hx1
                    · refine rop_on [122] (by kernel_rfl) none (by kernel_rfl) (fun k b hk => by cases hk) (fun K a W hK hx hl => ?_)
                      have e122 : a.tmps.getD 122 undef = .bool true := (hl 122 (by decide)).2 _ rfl
                      exact rop_val (v := .bool false) (by go_simp) (hK _ _ (fun t ht => by cases ht; exact spec_new rfl rfl rfl) (Ext.refl _))
                    · refine rop_on [123] (by kernel_rfl) none (by kernel_rfl) (fun k b hk => by cases hk) (fun K a W hK hx hl => ?_)
                      have e123 : a.tmps.getD 123 undef = .bool false := (hl 123 (by decide)).2 _ rfl
                      exact rop_val (v := .bool false) (by go_simp) (hK _ _ (fun t ht => by cases ht; exact spec_new rfl rfl rfl) (Ext.refl _))
                    · refine rop_on [11, 124] (by kernel_rfl) (some (124, false)) (by kernel_rfl) (fun k b hk v w hS => by cases hk; exact hS.2 _ rfl) (fun K a W hK hx hl => ?_)
                      have e11 : a.tmps.getD 11 undef = .slice (some adn) R.length cn := (hl 11 (by decide)).1 _ rfl
                      exact rop_val (v := .slice (some adn) R.length cn) (by go_simp) (hK _ _ (fun t ht => by cases ht; exact spec_new rfl rfl rfl) (Ext.refl _))
                    · refine rop_on [12, 124] (by kernel_rfl) (some (124, false)) (by kernel_rfl) (fun k b hk v w hS => by cases hk; exact hS.2 _ rfl) (fun K a W hK hx hl => ?_)
                      have e12 : a.tmps.getD 12 undef = .int .i64 q := (hl 12 (by decide)).1 _ rfl
                      exact rop_val (v := .int .i64 q) (by go_simp) (hK _ _ (fun t ht => by cases ht; exact spec_new rfl rfl rfl) (Ext.refl _))
                    · refine rop_on [124, 125, 126] (by kernel_rfl) (some (124, false)) (by kernel_rfl) (fun k b hk v w hS => by cases hk; exact hS.2 _ rfl) (fun K a W hK hx hl => ?_)
                      have e125 : a.tmps.getD 125 undef = .slice (some adn) R.length cn := (hl 125 (by decide)).2 _ rfl
                      have e126 : a.tmps.getD 126 undef = .int .i64 q := (hl 126 (by decide)).2 _ rfl
                      exact rop_val (v := .pointer (some (adn.add q))) (by go_simp) (hK _ _ (fun t ht => by cases ht; exact spec_new rfl rfl rfl) (Ext.refl _))
                    · refine rop_on [124, 127] (by kernel_rfl) (some (124, false)) (by kernel_rfl) (fun k b hk v w hS => by cases hk; exact hS.2 _ rfl) (fun K a W hK hx hl => ?_)
                      have e127 : a.tmps.getD 127 undef = .pointer (some (adn.add q)) := (hl 127 (by decide)).2 _ rfl
                      have z0 := hx.cell HCN.out
                      exact rop_val (v := .int .i64 xo) (by go_simp) (hK _ _ (fun t ht => by cases ht; exact spec_new rfl rfl rfl) (Ext.refl _))
                    · refine rop_on [10, 124] (by kernel_rfl) (some (124, false)) (by kernel_rfl) (fun k b hk v w hS => by cases hk; exact hS.2 _ rfl) (fun K a W hK hx hl => ?_)
                      have e10 : a.tmps.getD 10 undef = .slice (some adw) R.length cw := (hl 10 (by decide)).1 _ rfl
                      exact rop_val (v := .slice (some adw) R.length cw) (by go_simp) (hK _ _ (fun t ht => by cases ht; exact spec_new rfl rfl rfl) (Ext.refl _))
                    · refine rop_on [12, 124] (by kernel_rfl) (some (124, false)) (by kernel_rfl) (fun k b hk v w hS => by cases hk; exact hS.2 _ rfl) (fun K a W hK hx hl => ?_)
                      have e12 : a.tmps.getD 12 undef = .int .i64 q := (hl 12 (by decide)).1 _ rfl
                      exact rop_val (v := .int .i64 q) (by go_simp) (hK _ _ (fun t ht => by cases ht; exact spec_new rfl rfl rfl) (Ext.refl _))
                    · refine rop_on [124, 129, 130] (by kernel_rfl) (some (124, false)) (by kernel_rfl) (fun k b hk v w hS => by cases hk; exact hS.2 _ rfl) (fun K a W hK hx hl => ?_)
                      have e129 : a.tmps.getD 129 undef = .slice (some adw) R.length cw := (hl 129 (by decide)).2 _ rfl
                      have e130 : a.tmps.getD 130 undef = .int .i64 q := (hl 130 (by decide)).2 _ rfl
                      exact rop_val (v := .pointer (some (adw.add q))) (by go_simp) (hK _ _ (fun t ht => by cases ht; exact spec_new rfl rfl rfl) (Ext.refl _))
                    · refine rop_on [124, 131] (by kernel_rfl) (some (124, false)) (by kernel_rfl) (fun k b hk v w hS => by cases hk; exact hS.2 _ rfl) (fun K a W hK hx hl => ?_)
                      have e131 : a.tmps.getD 131 undef = .pointer (some (adw.add q)) := (hl 131 (by decide)).2 _ rfl
                      have z0 := hx.cell HCW.out
                      exact rop_val (v := .int .i64 r.pos) (by go_simp) (hK _ _ (fun t ht => by cases ht; exact spec_new rfl rfl rfl) (Ext.refl _))
                    · refine rop_on [124, 128, 132] (by kernel_rfl) (some (124, false)) (by kernel_rfl) (fun k b hk v w hS => by cases hk; exact hS.2 _ rfl) (fun K a W hK hx hl => ?_)
                      have e128 : a.tmps.getD 128 undef = .int .i64 xo := (hl 128 (by decide)).2 _ rfl
                      have e132 : a.tmps.getD 132 undef = .int .i64 r.pos := (hl 132 (by decide)).2 _ rfl
                      exact rop_val (v := .bool false) (by go_simp) (hK _ _ (fun t ht => by cases ht; exact spec_new rfl rfl rfl) (Ext.refl _))
                    · refine rop_on [124, 133] (by kernel_rfl) none (by kernel_rfl) (fun k b hk => by cases hk) (fun K a W hK hx hl => ?_)
                      have e124 : a.tmps.getD 124 undef = .bool false := (hl 124 (by decide)).2 _ rfl
                      have e133 : a.tmps.getD 133 undef = .bool false := (hl 133 (by decide)).2 _ rfl
                      exact rop_val (v := .bool false) (by go_simp) (hK _ _ (fun t ht => by cases ht; exact spec_new rfl rfl rfl) (Ext.refl _))
                    · intro x hx; cases hx
                  · intro vf W hx hS
                    have h134 : vf 134 = .bool false := (hS 134 (any_dst (by kernel_rfl))).2 _ rfl
                    simp only [fill, List.foldl_cons, List.foldl_nil, List.setIfInBounds_toArray, List.set_cons_zero, List.set_cons_succ]
                    go_wp2_with fail
                    go_meet
                    exact ⟨h134, hx⟩
                case rest =>
                  obtain ⟨rfl, hxc⟩ := hcut
                  have HXC := Lib.hid hxc
                  have y0 := hxc.cell HCN.out
                  clear hxc
                  go_wp2_with fail
                  refine (arLits_c _ _ p mb3 lv3 _ T xo (HMT.out.ext HXC.out) XB.out).mono ?_
                  rintro e w8 ⟨vm, rfl, hom, hx8⟩
                  rw [litsA_of FD3.out.1, FD3.out.2.2.2] at hom
                  obtain ⟨Am, nm, cm, rfl⟩ := hom.form
                  have hsm := ownI_sl hom (by have := RB.out.1; omega) RB.out.2
                  obtain rfl : nm = r.lits.length := hsm.1.symm
                  have MSL0 := Lib.hid hsm
                  have MKI := Lib.hid (KInt.new hom (fun b hb => ((HMT.out.ext HXC.out).lt hb).2) : KInt (ArF p mb3 lv3) w8 _ _)
                  have HX8 := Lib.hid hx8
                  clear hom hsm hx8
                  by_cases hlen : 1 < r.lits.length
                  · have hl1 : (1 : Int) < (r.lits.length : Int) := by omega
                    go_wp2_with (at_builtin; refine appendS _ rfl (.tmp 144) (.tmp 145) rfl w8.heap.size _ _ rfl (own_empty _) _ _ _ _ rfl (MSL0.out.ext ((Ext.refl _).alloc _)) (by have := RB.out.1; simp; omega) (by simp) ?_; intro v9 w9 ho9 hg9 _; obtain ⟨At, nt, ct, rfl⟩ := OwnI.form ho9; have hx9 : Ext w8 w9 := Ext.grown ((Ext.refl _).alloc _) hg9 (fun k hk => by have : w8.heap.size = k := Option.some.inj hk; omega); have y9 := (HXC.out.trans (HX8.out.trans hx9)).cell HCN.out; have HO9 := Lib.hid ho9; have HX9 := Lib.hid hx9; clear ho9 hg9 hx9)
                    refine (arSwap_c _ _ p mb3 lv3 K T xo 0 1 (HMT.out.ext (HXC.out.trans (HX8.out.trans HX9.out))) XB.out (by omega)).mono ?_
                    rintro e w10 ⟨rfl, hnx⟩
                    have HX10 := Lib.hid (ArNext.thr (HMT.out.ext (HXC.out.trans (HX8.out.trans HX9.out))) (Nat.le_refl _) (HXW.out.trans (HXC.out.trans (HX8.out.trans HX9.out))) hnx)
                    obtain ⟨hE, hkeep4, hla⟩ := HKS.out hlen
                    obtain ⟨lv4, mb4, hm4, hs4, hn4⟩ := hnx
                    have LA4 := Lib.hid (hla hm4.inv)
                    have HM4 := Lib.hid hm4
                    have HKP4 := Lib.hid hkeep4
                    have KR4 := Lib.hid ((HKR.out.ext (HXC.out.trans (HX8.out.trans HX9.out))).next hs4 hn4)
                    have kn4 := (HKN.out.ext (HXC.out.trans (HX8.out.trans HX9.out))).next hs4 hn4
                    have KW4 := Lib.hid ((HKW.out.ext (HXC.out.trans (HX8.out.trans HX9.out))).next hs4 hn4)
                    have mk4 := (MKI.out.ext HX9.out).next hs4 hn4
                    have tk4 := (KInt.new HO9.out (fun b hb => (((HMT.out.ext HXC.out).ext HX8.out).lt hb).2) : KInt (ArF p mb3 lv3) w9 _ _).next hs4 hn4
                    have hmsl := ownI_sl mk4.1 (by have := RB.out.1; omega) RB.out.2
                    have htsl : IntSl w10 At nt r.lits := ownI_sl tk4.1 (by have := RB.out.1; simp; omega) RB.out.2
                    obtain rfl : nt = r.lits.length := htsl.1.symm
                    obtain ⟨yv, hyv⟩ : ∃ yv, r.lits[1]? = some yv := ⟨_, List.getElem?_eq_getElem hlen⟩
                    obtain ⟨adm, _, rfl, _⟩ := hmsl.at_ hlen
                    obtain ⟨adt, _, rfl, _⟩ := htsl.at_ hlen
                    have HCT := Lib.hid (htsl.cellAt hyv)
                    have HCN := Lib.hid ((ownI_sl kn4.1 (by rw [HNL.out]; omega) HNB.out).cellAt HNQ.out)
                    have YV : Hid ((swapL r.lits 0 1)[0]? = some yv) := Lib.hid (swapL_zero hyv)
                    have YB : Hid ((swapL r.lits 0 1).length ≤ 1000 ∧ (∀ x ∈ swapL r.lits 0 1, -9223372036854775808 ≤ x ∧ x ≤ 9223372036854775807) ∧ 0 < (swapL r.lits 0 1).length) :=
                      Lib.hid ⟨by rw [swapL_len]; exact RB.out.1, fun x hx => RB.out.2 x (swapL_mem (by omega) hlen hx), by rw [swapL_len]; omega⟩
                    have KN4 := Lib.hid kn4
                    have MSL := Lib.hid hmsl
                    have TSL := Lib.hid htsl
                    rw [hE]
                    clear hE hkeep4 hla hm4 hs4 hn4 kn4 mk4 tk4 hmsl htsl hyv HO9 MKI MSL0 y0 y9
                    generalize swapS T xo 0 1 = T4 at LA4 HM4 HKP4
                    generalize swapL r.lits 0 1 = YS at LA4 YV YB
                    go_wp2_with fail
                    go_cut [170] (fun s wx => s = .bool false ∧ Ext w10 wx)
                    case first =>
                      refine wp_region_invF (SpecS (base30 p q R.length cn ct cm r.lits.length adn adt adm) (reg30 p q R.length cn ct cm r.lits.length xo adn adt adm yv YS)) (by kernel_rfl) (by kernel_rfl) SpecS.ext (SpecS.start (by kernel_rfl) ?_) ?_ ?_
                      · exact lookup_all (by simp [base30, Spec.holds])
                      · simp only [List.forall_mem_cons]
                        repeat' apply And.intro
                        · refine rop_on [13] (by kernel_rfl) none (by kernel_rfl) (fun k b hk => by cases hk) (fun K a W hK hx hl => ?_)
                          have e13 : a.tmps.getD 13 undef = .slice (some adm) r.lits.length cm := (hl 13 (by decide)).1 _ rfl
                          exact rop_val (v := .slice (some adm) r.lits.length cm) (by go_simp) (hK _ _ (fun t ht => by cases ht; exact spec_new rfl rfl rfl) (Ext.refl _))
                        · refine rop_on [14] (by kernel_rfl) none (by kernel_rfl) (fun k b hk => by cases hk) (fun K a W hK hx hl => ?_)
                          have e14 : a.tmps.getD 14 undef = .slice (some adt) r.lits.length ct := (hl 14 (by decide)).1 _ rfl
                          exact rop_val (v := .slice (some adt) r.lits.length ct) (by go_simp) (hK _ _ (fun t ht => by cases ht; exact spec_new rfl rfl rfl) (Ext.refl _))
                        · refine rop_on [153, 154] (by kernel_rfl) none (by kernel_rfl) (fun k b hk => by cases hk) (fun K a W hK hx hl => ?_)
                          have e153 : a.tmps.getD 153 undef = .slice (some adm) r.lits.length cm := (hl 153 (by decide)).2 _ rfl
                          have e154 : a.tmps.getD 154 undef = .slice (some adt) r.lits.length ct := (hl 154 (by decide)).2 _ rfl
                          unfold Oper.wp
                          rw [show (execOp a.eval _).run Try.prog W = .ok (.enter 13 #[.slice (some adm) r.lits.length cm, .slice (some adt) r.lits.length ct]) W from by go_simp, Oper.upon_enter]
                          refine (same_c _ _ _ r.lits _ _ _ r.lits _ (MSL.out.ext hx) (TSL.out.ext hx)).mono ?_
                          rintro e w1 ⟨rfl, hx1⟩
                          rw [sameV_refl12]
                          exact hK _ _ (fun t ht => by cases ht; exact spec_new rfl rfl rfl) hx1
                        · refine rop_on [155] (by kernel_rfl) none (by kernel_rfl) (fun k b hk => by cases hk) (fun K a W hK hx hl => ?_)
                          have e155 : a.tmps.getD 155 undef = .bool true := (hl 155 (by decide)).2 _ rfl
                          exact rop_val (v := .bool false) (by go_simp) (hK _ _ (fun t ht => by cases ht; exact spec_new rfl rfl rfl) (Ext.refl _))
                        · refine rop_on [156] (by kernel_rfl) none (by kernel_rfl) (fun k b hk => by cases hk) (fun K a W hK hx hl => ?_)
                          have e156 : a.tmps.getD 156 undef = .bool false := (hl 156 (by decide)).2 _ rfl
                          exact rop_val (v := .bool false) (by go_simp) (hK _ _ (fun t ht => by cases ht; exact spec_new rfl rfl rfl) (Ext.refl _))
                        · refine rop_on [3, 157] (by kernel_rfl) (some (157, false)) (by kernel_rfl) (fun k b hk v w hS => by cases hk; exact hS.2 _ rfl) (fun K a W hK hx hl => ?_)
                          have e3 : a.tmps.getD 3 undef = .pointer (some ⟨p, 0, none⟩) := (hl 3 (by decide)).1 _ rfl
                          exact rop_val (v := .pointer (some ⟨p, 0, none⟩)) (by go_simp) (hK _ _ (fun t ht => by cases ht; exact spec_new rfl rfl rfl) (Ext.refl _))
                        · refine rop_on [11, 157] (by kernel_rfl) (some (157, false)) (by kernel_rfl) (fun k b hk v w hS => by cases hk; exact hS.2 _ rfl) (fun K a W hK hx hl => ?_)
                          have e11 : a.tmps.getD 11 undef = .slice (some adn) R.length cn := (hl 11 (by decide)).1 _ rfl
                          exact rop_val (v := .slice (some adn) R.length cn) (by go_simp) (hK _ _ (fun t ht => by cases ht; exact spec_new rfl rfl rfl) (Ext.refl _))
                        · refine rop_on [12, 157] (by kernel_rfl) (some (157, false)) (by kernel_rfl) (fun k b hk v w hS => by cases hk; exact hS.2 _ rfl) (fun K a W hK hx hl => ?_)
                          have e12 : a.tmps.getD 12 undef = .int .i64 q := (hl 12 (by decide)).1 _ rfl
                          exact rop_val (v := .int .i64 q) (by go_simp) (hK _ _ (fun t ht => by cases ht; exact spec_new rfl rfl rfl) (Ext.refl _))
                        · refine rop_on [157, 159, 160] (by kernel_rfl) (some (157, false)) (by kernel_rfl) (fun k b hk v w hS => by cases hk; exact hS.2 _ rfl) (fun K a W hK hx hl => ?_)
                          have e159 : a.tmps.getD 159 undef = .slice (some adn) R.length cn := (hl 159 (by decide)).2 _ rfl
                          have e160 : a.tmps.getD 160 undef = .int .i64 q := (hl 160 (by decide)).2 _ rfl
                          exact rop_val (v := .pointer (some (adn.add q))) (by go_simp) (hK _ _ (fun t ht => by cases ht; exact spec_new rfl rfl rfl) (Ext.refl _))
                        · refine rop_on [157, 161] (by kernel_rfl) (some (157, false)) (by kernel_rfl) (fun k b hk v w hS => by cases hk; exact hS.2 _ rfl) (fun K a W hK hx hl => ?_)
                          have e161 : a.tmps.getD 161 undef = .pointer (some (adn.add q)) := (hl 161 (by decide)).2 _ rfl
                          have z0 := hx.cell HCN.out
                          exact rop_val (v := .int .i64 xo) (by go_simp) (hK _ _ (fun t ht => by cases ht; exact spec_new rfl rfl rfl) (Ext.refl _))
                        · refine rop_on [157, 158, 162] (by kernel_rfl) (some (157, false)) (by kernel_rfl) (fun k b hk v w hS => by cases hk; exact hS.2 _ rfl) (fun K a W hK hx hl => ?_)
                          have e158 : a.tmps.getD 158 undef = .pointer (some ⟨p, 0, none⟩) := (hl 158 (by decide)).2 _ rfl
                          have e162 : a.tmps.getD 162 undef = .int .i64 xo := (hl 162 (by decide)).2 _ rfl
                          unfold Oper.wp
                          rw [show (execOp a.eval _).run Try.prog W = .ok (.enter 31 #[.pointer (some ⟨p, 0, none⟩), .int .i64 xo]) W from by go_simp, Oper.upon_enter]
                          refine (arLits_c _ _ p mb4 lv4 _ T4 xo (HM4.out.ext hx) XB.out).mono ?_
                          rintro e w1 ⟨v1, rfl, ho1, hx1⟩
                          rw [LA4.out] at ho1
                          obtain ⟨A1, n1, c1, rfl⟩ := ho1.form
                          exact hK _ _ (fun t ht => by cases ht; exact spec_new rfl rfl ⟨A1, n1, c1, rfl, by have h9 := (ownI_sl ho1 (by have := YB.out.1; omega) YB.out.2.1).1; have := YB.out.2.2; omega, ownI_sl ho1 (by have := YB.out.1; omega) YB.out.2.1⟩) hx1
                        · refine rop_on [157, 163] (by kernel_rfl) (some (157, false)) (by kernel_rfl) (fun k b hk v w hS => by cases hk; exact hS.2 _ rfl) (fun K a W hK hx hl => ?_)
                          obtain ⟨A1, n1, c1, e163, hn1, hs1⟩ := (hl 163 (by decide)).2 _ rfl
                          obtain ⟨ad1, rfl, hc1⟩ := hs1.2.2.2 hn1
                          have z0 := hc1 0 yv YV.out
                          have hn2 : (0 : Int) < (n1 : Int) := by omega
                          rw [add_zero15] at z0
                          exact rop_val (v := .pointer (some (ad1.add 0))) (by go_simp) (hK _ _ (fun t ht => by cases ht; exact spec_new rfl rfl ⟨_, rfl, by rw [add_zero15]; exact z0⟩) (Ext.refl _))
                        · refine rop_on [157, 164] (by kernel_rfl) (some (157, false)) (by kernel_rfl) (fun k b hk v w hS => by cases hk; exact hS.2 _ rfl) (fun K a W hK hx hl => ?_)
                          obtain ⟨ad1, e164, z0⟩ := (hl 164 (by decide)).2 _ rfl
                          exact rop_val (v := .int .i64 yv) (by go_simp) (hK _ _ (fun t ht => by cases ht; exact spec_new rfl rfl rfl) (Ext.refl _))
                        · refine rop_on [14, 157] (by kernel_rfl) (some (157, false)) (by kernel_rfl) (fun k b hk v w hS => by cases hk; exact hS.2 _ rfl) (fun K a W hK hx hl => ?_)
                          have e14 : a.tmps.getD 14 undef = .slice (some adt) r.lits.length ct := (hl 14 (by decide)).1 _ rfl
                          exact rop_val (v := .slice (some adt) r.lits.length ct) (by go_simp) (hK _ _ (fun t ht => by cases ht; exact spec_new rfl rfl rfl) (Ext.refl _))
                        · refine rop_on [157, 166] (by kernel_rfl) (some (157, false)) (by kernel_rfl) (fun k b hk v w hS => by cases hk; exact hS.2 _ rfl) (fun K a W hK hx hl => ?_)
                          have e166 : a.tmps.getD 166 undef = .slice (some adt) r.lits.length ct := (hl 166 (by decide)).2 _ rfl
                          exact rop_val (v := .pointer (some (adt.add 1))) (by go_simp) (hK _ _ (fun t ht => by cases ht; exact spec_new rfl rfl rfl) (Ext.refl _))
                        · refine rop_on [157, 167] (by kernel_rfl) (some (157, false)) (by kernel_rfl) (fun k b hk v w hS => by cases hk; exact hS.2 _ rfl) (fun K a W hK hx hl => ?_)
                          have e167 : a.tmps.getD 167 undef = .pointer (some (adt.add 1)) := (hl 167 (by decide)).2 _ rfl
                          have z0 : W.cell? ⟨adt.block, adt.off + 1, none⟩ = some (.int .i64 yv) := by have := hx.cell HCT.out; simpa [Addr.add] using this
                          exact rop_val (v := .int .i64 yv) (by go_simp) (hK _ _ (fun t ht => by cases ht; exact spec_new rfl rfl rfl) (Ext.refl _))
                        · refine rop_on [157, 165, 168] (by kernel_rfl) (some (157, false)) (by kernel_rfl) (fun k b hk v w hS => by cases hk; exact hS.2 _ rfl) (fun K a W hK hx hl => ?_)
                          have e165 : a.tmps.getD 165 undef = .int .i64 yv := (hl 165 (by decide)).2 _ rfl
                          have e168 : a.tmps.getD 168 undef = .int .i64 yv := (hl 168 (by decide)).2 _ rfl
                          exact rop_val (v := .bool false) (by go_simp) (hK _ _ (fun t ht => by cases ht; exact spec_new rfl rfl rfl) (Ext.refl _))
                        · refine rop_on [157, 169] (by kernel_rfl) none (by kernel_rfl) (fun k b hk => by cases hk) (fun K a W hK hx hl => ?_)
                          have e157 : a.tmps.getD 157 undef = .bool false := (hl 157 (by decide)).2 _ rfl
                          have e169 : a.tmps.getD 169 undef = .bool false := (hl 169 (by decide)).2 _ rfl
                          exact rop_val (v := .bool false) (by go_simp) (hK _ _ (fun t ht => by cases ht; exact spec_new rfl rfl rfl) (Ext.refl _))
                        · intro x hx; cases hx
                      · intro vf W hx hS
                        have h170 : vf 170 = .bool false := (hS 170 (any_dst (by kernel_rfl))).2 _ rfl
                        simp only [fill, List.foldl_cons, List.foldl_nil, List.setIfInBounds_toArray, List.set_cons_zero, List.set_cons_succ]
                        go_wp2_with fail
                        go_meet
                        exact ⟨h170, hx⟩
                    case rest =>
                      obtain ⟨rfl, hxd⟩ := hcut
                      have HXD := Lib.hid hxd
                      clear hxd
                      go_wp2_with fail
                      go_roundw
                      case rel => exact ⟨q + 1, K + 1, mb4, lv4, T4, by omega, by omega, by go_num, HKP4.out, HM4.out.ext HXD.out, KR4.out.ext HXD.out, KN4.out.ext HXD.out, KW4.out.ext HXD.out, HX10.out.trans HXD.out⟩
                      case measure => simp [intOf]; omega
                  · have hl1 : ¬ (1 : Int) < (r.lits.length : Int) := by omega
                    go_wp2_with fail
                    go_roundw
                    case rel => exact ⟨q + 1, K, mb3, lv3, T, by omega, by omega, by go_num, HKP.out.next, HMT.out.ext (HXC.out.trans HX8.out), HKR.out.ext (HXC.out.trans HX8.out), HKN.out.ext (HXC.out.trans HX8.out), HKW.out.ext (HXC.out.trans HX8.out), HXW.out.trans (HXC.out.trans HX8.out)⟩
                    case measure => simp [intOf]; omega
              · obtain rfl : q = R.length := by omega
                go_wp2_with fail
                refine (arCompact_c _ _ p mb3 lv3 K T HMT.out (by omega)).mono ?_
                rintro e w8 ⟨vw, rfl, how, hnv⟩
                have HX8 := Lib.hid (ArNext.thr HMT.out (Nat.le_refl _) HXW.out hnv.next)
                obtain ⟨Ae, ne, ce, rfl⟩ := how.form
                have hne := how.slen
                rw [HKP.out.all_len] at hne
                obtain rfl : ne = R.length := by simpa [slen] using hne
                clear how hnv hne
                go_wp2_with fail
                refine (law12awake_c _).mono ?_
                rintro e w9 ⟨rfl, hx9⟩
                go_wp2_with fail
                go_ret
                exact ⟨rfl, HX8.out.trans hx9⟩
end Go.Proofs.Ytbkimfefbdfkbaa
