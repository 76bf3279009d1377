/- RatCandidates answers true. -/
import Derived.Test.YtdhohoabcokdjaaRatAwake
import Derived.Test.YtdhohoabcokdjaaOf
import Derived.Test.YtdhohoabcokdjaaFew
import Derived.Deep.QuietTactic
set_option maxRecDepth 100000
namespace Go.Proofs.Ytdhohoabcokdjaa
open Go.RowKit

set_option maxRecDepth 100000 in
set_option maxHeartbeats 16000000 in
theorem lawRatCandidates_c (A : Option Addr) (n c : Nat) (L : List (List Int)) (A1 : Option Addr) (n1 c1 : Nat) (cl : List Int) (A2 : Option Addr) (n2 c2 : Nat) (m : List Bool) (w : World) (h : RowsSl w A n L) (h1 : IntSl w A1 n1 cl) (h2 : BoolSl w A2 n2 m) :
    Calls Try.prog 6 #[.slice A n c, .slice A1 n1 c1, .slice A2 n2 c2] w fun e w' => e = .returned (.bool true) ∧ Ext w w' := by
  obtain rfl : m.length = n2 := h2.1
  cases hfew : few8V L cl with
  | false =>
    have HF := Lib.hid hfew
    clear hfew
    go_enter Try.func6, Try.ntmps6
    go_wp2_with fail
    refine (few8_c _ _ _ L _ _ _ cl _ h h1).mono ?_
    rintro e w1 ⟨rfl, hx1⟩
    rw [HF.out]
    go_wp2_with fail
    refine (law09awake_c _).mono ?_
    rintro e w2 ⟨rfl, hx2⟩
    go_wp2_with fail
    go_ret
    exact ⟨rfl, hx1.trans hx2⟩
  | true =>
    have hbd := few8_bd hfew
    have hrows : ∀ d ∈ L, d.length ≤ 10000000 := fun d hd => by
      unfold few8V fewV at hfew
      simp only [Bool.and_eq_true, decide_eq_true_eq, List.all_eq_true] at hfew
      have := hfew.1.1.2 d hd; omega
    obtain ⟨_, hL60, hl60⟩ := hbd
    have hn60 : n ≤ 60 := by have := h.1; omega
    have hn160 : n1 ≤ 60 := by have := h1.1; omega
    have HF := Lib.hid hfew
    have HLn := Lib.hid h.1
    have HROWS := Lib.hid hrows
    clear hfew hL60 hl60 hrows
    by_cases h200 : 200 < m.length
    · go_enter Try.func6, Try.ntmps6
      go_wp2_with fail
      refine (few8_c _ _ _ L _ _ _ cl _ h h1).mono ?_
      rintro e w1 ⟨rfl, hx1⟩
      rw [HF.out]
      go_wp2_with fail
      refine (law09awake_c _).mono ?_
      rintro e w2 ⟨rfl, hx2⟩
      go_wp2_with fail
      go_ret
      exact ⟨rfl, hx1.trans hx2⟩
    · by_cases hn0 : n1 = 0
      · subst hn0
        go_enter Try.func6, Try.ntmps6
        go_wp2_with fail
        refine (few8_c _ _ _ L _ _ _ cl _ h h1).mono ?_
        rintro e w1 ⟨rfl, hx1⟩
        rw [HF.out]
        go_wp2_with fail
        refine (law09awake_c _).mono ?_
        rintro e w2 ⟨rfl, hx2⟩
        go_wp2_with fail
        go_ret
        exact ⟨rfl, hx1.trans hx2⟩
      · have hn1 : ((n1 : Int) == 0) = false := by rw [beq_eq_false_iff_ne]; omega
        have hn1p : 0 < n1 := by omega
        have hn1i : (0 : Int) < (n1 : Int) := by omega
        obtain ⟨p, xs, hcl⟩ : ∃ p xs, cl = p :: xs := by
          cases cl with
          | nil => have := h1.1; simp at this; omega
          | cons p xs => exact ⟨p, xs, rfl⟩
        clear hn0
        obtain ⟨ad1, p', rfl, hp', hcp, hp1, hp2⟩ := h1.at_ hn1p
        have hpp : p' = p := by have := hp'.out; rw [hcl] at this; simpa using this.symm
        subst hpp
        have e0 : ad1.add 0 = ad1 := by unfold Addr.add; split <;> simp_all
        rw [e0] at hcp
        have HCP := Lib.hid hcp
        have HCL := Lib.hid hcl
        clear hcl hp' e0 hcp
        go_enter Try.func6, Try.ntmps6
        go_wp2_with fail
        refine (few8_c _ _ _ L _ _ _ cl _ h h1).mono ?_
        rintro e w1 ⟨rfl, hx1⟩
        rw [HF.out]
        have y0 := hx1.cell HCP.out
        have HX1 := Lib.hid hx1
        clear hx1
        go_wp2_with fail
        refine (cands_c _ _ _ L _ _ (h.ext HX1.out) (by omega)).mono ?_
        rintro e w2 ⟨v2, rfl, ho2, hx2⟩
        have hcm : ∀ x ∈ candV p' L, -9223372036854775808 ≤ x ∧ x ≤ 9223372036854775807 := fun x hx => by
          obtain ⟨j, e, hj, _⟩ := candL_mem hx
          have := HLn.out
          omega
        have hcn := candL_len p' L L.length
        obtain ⟨A7, n7, c7, rfl, hs7⟩ := ho2.sl (by have e2 := HLn.out; unfold candV; omega) hcm
        have hn7 : n7 ≤ 60 := by have e1 := hs7.1; have e2 := HLn.out; unfold candV at e1; omega
        have HN7 := Lib.hid hs7.1
        have HX2 := Lib.hid (HX1.out.trans hx2)
        have HS7 := Lib.hid hs7
        clear ho2 hx2 hcm hcn hs7 y0
        go_wp2_with fail
        go_loopw [8, 9] (fun q i wr => ∃ k : Nat, k ≤ n ∧ i = .int .i64 k ∧ q = .int .i64 ((candL p' L k).length : Nat) ∧ Ext w2 wr) (fun _ i _ => n - (intOf i).toNat)
        case atStart => exact ⟨0, Nat.zero_le _, rfl, rfl, Ext.refl _⟩
        case round =>
          obtain ⟨k, hk, rfl, rfl, hxr⟩ := hrel
          have HXR := Lib.hid hxr
          by_cases hlt : k < n
          · obtain ⟨ad, ys, A3, n3, c3, rfl, hy, hcy, hrow⟩ := (h.ext (HX2.out.trans hxr)).at_ hlt
            have HS : Hid ((candL p' L (k + 1)) = candL p' L k ++ (if has2V ys (negV p') then [(k : Int)] else [])) := by
              unfold Hid
              rw [candL_succ, List.getD_eq_getElem?_getD, hy.out]; rfl
            have y0 := (HX2.out.trans hxr).cell HCP.out
            have hct := cand_test p' ys
            have b0 : (0 : Int) ≤ (k : Int) := by omega
            have b1 : (k : Int) < (n : Int) := by omega
            obtain ⟨cnt, hcnt⟩ : ∃ cnt, (candL p' L k).length = cnt := ⟨_, rfl⟩
            rw [hcnt]
            have HCNT := Lib.hid hcnt
            clear hcnt
            have HROW := Lib.hid hrow
            have qi : ∀ j, Calls Try.prog 28 #[.int .i64 p'] (wr.drewN j) fun e w' => e = .returned (.int .i64 (indexV p')) ∧ wr.drewN j = w' := fun j => rIndex_c p' _
            have qh : ∀ j, Calls Try.prog 29 #[.slice A3 n3 c3, .int .i64 (-p')] (wr.drewN j) fun e w' => e = .returned (.bool (hasV ys (-p'))) ∧ wr.drewN j = w' := fun j => rHas_c _ _ _ ys (-p') _ (HROW.out.ext ((Ext.refl _).drewN j))
            cases hi : decide (0 ≤ indexV p') with
            | false =>
              have HR : Hid (candL p' L (k + 1) = candL p' L k) := by
                unfold Hid
                rw [HS.out, ← hct, hi, Bool.false_and, if_neg (by simp), List.append_nil]
              clear hct hrow hxr
              go_wp2_with fail
              go_quiet ((first | (go_at_call 28; with_reducible exact quiet_left (qi _)) | (go_at_call 29; with_reducible exact quiet_left (qh _))))
              go_wp2_with fail
              go_roundw
              case rel => exact ⟨k + 1, by omega, by go_num, by rw [HR.out, HCNT.out], HXR.out.drewN _⟩
              case measure => simp [intOf]; omega
            | true =>
              have hpb : -100000 ≤ p' ∧ p' ≤ 100000 := by
                have e := varV_index p'
                have e2 : varV p' ≠ 0 := e.1 (of_decide_eq_true hi)
                exact (varV_pos e2).2
              obtain ⟨hpb1, hpb2⟩ := hpb
              have hwn : IntKind.i64.wrap (-p') = -p' := IntWalk.i64_in _ (by omega)
              cases hh : hasV ys (-p') with
              | false =>
                have HR : Hid (candL p' L (k + 1) = candL p' L k) := by
                  unfold Hid
                  rw [HS.out, ← hct, hh, Bool.and_false, if_neg (by simp), List.append_nil]
                rw [hh] at qh
                clear hct hrow hxr hh
                go_wp2_with fail
                go_quiet ((first | (go_at_call 28; with_reducible exact quiet_left (qi _)) | (go_at_call 29; with_reducible exact quiet_left (qh _))))
                go_wp2_with fail
                go_roundw
                case rel => exact ⟨k + 1, by omega, by go_num, by rw [HR.out, HCNT.out], HXR.out.drewN _⟩
                case measure => simp [intOf]; omega
              | true =>
                have hcand : has2V ys (negV p') = true := by rw [← hct, hi, hh]; rfl
                have HR : Hid (candL p' L (k + 1) = candL p' L k ++ [(k : Int)]) := by
                  unfold Hid
                  rw [HS.out, hcand, if_pos rfl]
                have hat : (candV p' L)[cnt]? = some (k : Int) := by
                  have := candV_at (p := p') (L := L) (k := k) (by have := HLn.out; omega) (by rw [List.getD_eq_getElem?_getD, hy.out]; exact hcand)
                  rwa [HCNT.out] at this
                have hcnt7 : cnt < n7 := by have e := (List.getElem?_eq_some_iff.1 hat).1; rw [HN7.out] at e; exact e
                obtain ⟨ad7, x7, rfl, hx7, hc7, _, _⟩ := (HS7.out.ext hxr).at_ hcnt7
                have hxk : x7 = (k : Int) := by have := hx7.out; rw [hat] at this; cases this; rfl
                subst hxk
                have b3 : (cnt : Int) < (n7 : Int) := by omega
                rw [hh] at qh
                clear hct hrow hxr hh hat hx7 hcand
                go_wp2_with fail
                go_quiet ((first | (go_at_call 28; with_reducible exact quiet_left (qi _)) | (go_at_call 29; with_reducible exact quiet_left (qh _))))
                go_wp2_with fail
                go_roundw
                case rel => exact ⟨k + 1, by omega, by go_num, by rw [HR.out, List.length_append, HCNT.out]; go_num, HXR.out.drewN _⟩
                case measure => simp [intOf]; omega
          · have hcn7 : (candL p' L k).length = n7 := by
              have e1 := HN7.out
              unfold candV at e1
              rw [HLn.out] at e1
              rw [show k = n by omega]; exact e1
            rw [hcn7]
            clear hcn7 hxr
            go_wp2_with fail
            refine (ratShow_c _ _ _ L _ _ _ cl _ _ _ [] none (fun _ => none) _ (h.ext (HX2.out.trans HXR.out)) (h1.ext (HX2.out.trans HXR.out)) (RowsSl.nil _) (MapR.nil _) (by omega) (by omega) (by decide) HROWS.out).mono ?_
            rintro e w3 ⟨rfl, hx3⟩
            have HX3 := Lib.hid ((HX2.out.trans HXR.out).trans hx3)
            clear hx3
            obtain ⟨a0, er, hrs⟩ : ∃ a0 er, ratShow L cl [] (fun _ => none) = (a0, er) := ⟨_, _, rfl⟩
            rw [hrs]
            have hcase : ((n7 : Int) == 0) = false ∨ (n7 = 0 ∧ ((a0 = 0 ∧ er = 0) ∨ (a0 = -1 ∧ er = 10) ∨ (a0 = -1 ∧ er = 11))) := by
              by_cases hz : n7 = 0
              · right
                refine ⟨hz, ?_⟩
                have hnil : candV p' L = [] := List.eq_nil_of_length_eq_zero (by rw [HN7.out, hz])
                rw [HCL.out] at hrs
                rcases show_none (xs := xs) hnil with e | e | e <;> rw [e] at hrs <;> cases hrs
                · exact Or.inl ⟨rfl, rfl⟩
                · exact Or.inr (Or.inl ⟨rfl, rfl⟩)
                · exact Or.inr (Or.inr ⟨rfl, rfl⟩)
              · left; rw [beq_eq_false_iff_ne]; omega
            clear hrs
            rcases hcase with hz | ⟨rfl, ⟨rfl, rfl⟩ | ⟨rfl, rfl⟩ | ⟨rfl, rfl⟩⟩
            all_goals
              go_wp2_with fail
              refine (flip_c _ _ _ m _ _ _ cl _ (h2.ext HX3.out) (h1.ext HX3.out) (by omega)).mono ?_
              rintro e w4 ⟨A4, c4, rfl, hnb, hx4⟩
              have hfl := flipV_len cl m
              have hfb := hnb.sl (by omega)
              have HFB := Lib.hid hfb
              have HX4 := Lib.hid (HX3.out.trans hx4)
              clear hnb hfl hfb hx4
              go_wp2_with fail
              go_loopw [13] (fun i wr => ∃ k : Nat, 1 ≤ k ∧ k ≤ m.length + 1 ∧ i = .int .i64 k ∧ Ext w4 wr) (fun i _ => m.length + 1 - (intOf i).toNat)
              case atStart => exact ⟨1, by omega, by omega, rfl, Ext.refl _⟩
              case round =>
                obtain ⟨k, hk1, hk2, rfl, hxr4⟩ := hrel
                have HXR4 := Lib.hid hxr4
                by_cases hlt : k ≤ m.length
                · have b0 : (1 : Int) ≤ (k : Int) := by omega
                  have b1 : (k : Int) ≤ (m.length : Int) := by omega
                  obtain ⟨j, hj⟩ : ∃ j : Nat, (k : Int) - 1 = (j : Int) := ⟨k - 1, by omega⟩
                  have hjm : j < m.length := by omega
                  have b2 : (j : Int) < (m.length : Int) := by omega
                  have hwj : IntKind.i64.wrap ((k : Int) - 1) = (j : Int) := by rw [hj]; exact IntWalk.i64_in _ (by omega)
                  obtain ⟨ad5, b, rfl, hb5, hc5⟩ := (HFB.out.ext hxr4).at_ hjm
                  obtain ⟨ad6, bm, rfl, hb6, hc6⟩ := (h2.ext (HX4.out.trans hxr4)).at_ hjm
                  have hof := flip_of hjm (k : Int) (by omega) (by omega) cl hb5.out hb6.out
                  clear hb5 hb6 hxr4
                  obtain ⟨q, hq⟩ : ∃ q, ofY cl (k : Int) = q := ⟨_, rfl⟩
                  rw [hq] at hof
                  have HQ := Lib.hid hq
                  clear hq
                  rcases hof with ⟨rfl, rfl⟩ | ⟨rfl, rfl⟩ | ⟨rfl, rfl⟩ | rfl
                  all_goals
                    go_wp2_with fail
                    refine (rOfY_c _ _ _ cl _ _ (h1.ext (HX4.out.trans HXR4.out)) (by omega) (by omega)).mono ?_
                    rintro e w' ⟨rfl, rfl⟩
                    rw [HQ.out]
                    go_wp2_with fail
                    go_quiet (fail)
                    go_wp2_with fail
                    go_roundw
                    case rel => exact ⟨k + 1, by omega, by omega, by go_num, HXR4.out.drewN _⟩
                    case measure => simp [intOf]; omega
                · clear hxr4
                  go_wp2_with fail
                  refine (law09awake_c _).mono ?_
                  rintro e w5 ⟨rfl, hx5⟩
                  go_wp2_with fail
                  go_ret
                  exact ⟨rfl, (HX4.out.trans HXR4.out).trans hx5⟩
end Go.Proofs.Ytdhohoabcokdjaa
