/- RupUnits answers true. -/
import Derived.Test.YtdhohoabcokdjaaRupAwake
import Derived.Test.YtdhohoabcokdjaaFew
import Derived.Test.YtdhohoabcokdjaaOwnRows
set_option maxRecDepth 100000
namespace Go.Proofs.Ytdhohoabcokdjaa
open Go.RowKit

theorem rowsN_snoc {L : List (List Int)} {l : List Int} {j k : Nat} {xs : List Int} (h : l[j]? = some (k : Int)) (hx : L[k]? = some xs) : rowsN L (l.take (j + 1)) = rowsN L (l.take j) ++ [xs] := by
  unfold rowsN
  rw [take_succ_of h, List.map_append, List.map_singleton, getD_of hx]

set_option maxRecDepth 100000 in
set_option maxHeartbeats 4000000 in
theorem lawRupUnits_c (A : Option Addr) (n c : Nat) (L : List (List Int)) (A' : Option Addr) (n' c' : Nat) (cl : List Int) (w : World) (h : RowsSl w A n L) (hc1 : IntSl w A' n' cl ∧ n' ≤ c') :
    Calls Try.prog 5 #[.slice A n c, .slice A' n' c'] w fun e w' => e = .returned (.bool true) ∧ Ext w w' := by
  obtain ⟨h', hnc'⟩ := hc1
  cases hf : few8V L cl with
  | false =>
    have HF := Lib.hid hf
    clear hf
    go_enter Try.func5, Try.ntmps5
    go_wp2_with fail
    refine (few8_c _ _ _ L _ _ _ cl _ h h').mono ?_
    rintro e w1 ⟨rfl, hx1⟩
    rw [HF.out]
    go_wp2_with fail
    refine (law08awake_c _).mono ?_
    rintro e w2 ⟨rfl, hx2⟩
    go_wp2_with fail
    go_ret
    exact ⟨rfl, hx1.trans hx2⟩
  | true =>
    obtain ⟨hM, hL, hl⟩ := few8_bd hf
    have hLn := h.1
    have hn : n ≤ 60 := by omega
    have hn' : n' ≤ 60 := by have := h'.1; omega
    have HF := Lib.hid hf
    have HLn := Lib.hid hLn
    clear hf hL hl hLn
    go_enter Try.func5, Try.ntmps5
    go_wp2_with fail
    refine (few8_c _ _ _ L _ _ _ cl _ h h').mono ?_
    rintro e w1 ⟨rfl, hx1⟩
    rw [HF.out]
    go_wp2_with fail
    refine (hints_c _ _ _ L _ _ _ cl _ (h.ext hx1) (h'.ext hx1) (by omega) (by omega) (by omega)).mono ?_
    rintro e w2 ⟨Al, nl, cll, l, b, rfl, hl2, hok, hx2⟩
    have HOK := Lib.hid hok
    have HL2 := Lib.hid hl2
    have HX2 := Lib.hid (hx1.trans hx2)
    clear hx1 hx2 hl2 hok
    go_wp2_with fail
    refine (rupStart_c _ _ _ cl _ (h'.ext HX2.out) (by omega)).mono ?_
    rintro e w3 ⟨v3, rfl, hv3, hx3⟩
    obtain ⟨A3, n3, c3, rfl⟩ := hv3.form
    have HX3 := Lib.hid (HX2.out.trans hx3)
    have HL3 := Lib.hid (HL2.out.ext hx3)
    clear hv3 hx3 HL2 HX2
    cases b with
    | false =>
      have hnl : nl = 0 := by have := HL3.out.1; rw [HOK.out.2.1 rfl] at this; exact this.symm
      subst hnl
      by_cases he : startE cl = 0
      · have hr : refutesV L cl = false := by
          have := HOK.out.1
          rw [decide_eq_true he, Bool.true_and] at this
          exact this.symm
        have HE := Lib.hid he
        have HR := Lib.hid hr
        rw [HE.out]
        clear he hr
        go_wp2_with fail
        refine (rRefutes_c _ _ _ L _ _ _ cl _ (h.ext HX3.out) (h'.ext HX3.out) (by omega) (by omega)).mono ?_
        rintro e w4 ⟨rfl, hx4⟩
        rw [HR.out]
        have HX4 := Lib.hid (HX3.out.trans hx4)
        clear hx4
        go_wp2_with fail
        refine (law08awake_c _).mono ?_
        rintro e w5 ⟨rfl, hx5⟩
        go_wp2_with fail
        go_ret
        exact ⟨rfl, HX4.out.trans hx5⟩
      · have hb : (startE cl == 0) = false := by simpa using he
        clear he
        go_wp2_with fail
        refine (law08awake_c _).mono ?_
        rintro e w5 ⟨rfl, hx5⟩
        go_wp2_with fail
        go_ret
        exact ⟨rfl, HX3.out.trans hx5⟩
    | true =>
      obtain ⟨hbd, hlen, hch⟩ := HOK.out.2.2 rfl
      have hand : decide (startE cl = 0) = true ∧ refutesV L cl = true := by have := HOK.out.1; rw [eq_comm, Bool.and_eq_true] at this; exact this
      have he : startE cl = 0 := of_decide_eq_true hand.1
      have hr := hand.2
      have hnl : nl ≤ 60 := by have := HL3.out.1; have := HLn.out; omega
      have hsh : showU cl (rowsN L l) = (nl : Int) ∧ showE cl (rowsN L l) = 0 := by
        unfold showU showE
        rw [if_neg (fun h => h he), if_neg (fun h => h he)]
        have e1 := congrArg Prod.fst hch
        have e2 := congrArg Prod.snd hch
        have := HL3.out.1
        refine ⟨?_, e2⟩
        rw [← this]; exact e1
      have HSH := Lib.hid hsh
      have HE := Lib.hid he
      have HR := Lib.hid hr
      have HBD := Lib.hid hbd
      rw [HE.out]
      clear he hr hand hbd hch hsh hlen
      go_wp2_with fail
      refine (rRefutes_c _ _ _ L _ _ _ cl _ (h.ext HX3.out) (h'.ext HX3.out) (by omega) (by omega)).mono ?_
      rintro e w4 ⟨rfl, hx4⟩
      rw [HR.out]
      have HX4 := Lib.hid (HX3.out.trans hx4)
      have HL4 := Lib.hid (HL3.out.ext hx4)
      clear hx4 HL3 HX3
      go_wp2_with fail
      go_loopw [9, 10] (fun v i wr => ∃ j : Nat, j ≤ nl ∧ i = .int .i64 j ∧ OwnR w4 wr w4.heap.size v (rowsN L (l.take j)) ∧ Ext w4 wr) (fun _ i _ => nl - (intOf i).toNat)
      case atStart => exact ⟨0, Nat.zero_le _, rfl, OwnR.nil _ _ _, Ext.refl _⟩
      case round =>
        obtain ⟨j, hj, rfl, ho, hx⟩ := hrel
        have HO := Lib.hid ho
        have HXR := Lib.hid hx
        have hsz := hx.size_le
        have hrl : (rowsN L (l.take j)).length + 1 ≤ 1000000000000 := by unfold rowsN; rw [List.length_map]; have : (l.take j).length ≤ j := List.length_take_le _ _; omega
        have HRL := Lib.hid hrl
        clear ho hx hrl
        by_cases hlt : j < nl
        · obtain ⟨ad, x, rfl, hx, hcx, hxa, hxb⟩ := (HL4.out.ext HXR.out).at_ hlt
          obtain ⟨hx0, hx1⟩ := HBD.out x (List.mem_of_getElem? hx.out)
          obtain ⟨k, rfl⟩ := Int.eq_ofNat_of_zero_le hx0
          have hkn : k < n := by have := HLn.out; omega
          obtain ⟨ad2, xs, A5, n5, c5, rfl, hy, hcy, hrow⟩ := (h.ext HX4.out).at_ hkn
          have hcy' := HXR.out.cell hcy
          have HROW := Lib.hid hrow
          have HSN := Lib.hid (rowsN_snoc hx.out hy.out)
          clear hx0 hx1 hrow hcy
          go_wp2_with (at_builtin; refine appendR1 w4 _ rfl (.tmp 68) (.tmp 76) rfl w4.heap.size _ _ rfl (HO.out.alloc _) _ _ A5 n5 c5 xs rfl (cell_one _ _ _) HROW.out HRL.out (by simp; omega) ?_; intro v6 w6 ho6 hg6 hloc; clear hloc; have HO6 := Lib.hid ho6; have HG6 := Lib.hid hg6; clear ho6 hg6)
          go_roundw
          case rel => exact ⟨j + 1, by omega, by go_num, by rw [HSN.out]; exact HO6.out, Ext.grown (HXR.out.alloc _) HG6.out (fun q hq => (HO.out.blk q hq).1)⟩
          case measure => simp [intOf]; omega
        · have ho := HO.out
          rw [take_len_of HL4.out.1 hlt] at ho
          obtain ⟨A6, n6, c6, rfl, hs6, _⟩ := ho.sl HXR.out (by have := HL4.out.1; unfold rowsN; rw [List.length_map]; omega)
          have hn6 : n6 = nl := by have h1 := hs6.1; have h2 := HL4.out.1; unfold rowsN at h1; rw [List.length_map] at h1; omega
          subst hn6
          have HS6 := Lib.hid hs6
          have HXW := Lib.hid (HX4.out.trans HXR.out)
          clear ho hs6 HO
          go_wp2_with fail
          refine (rRupShow_c _ _ _ cl _ _ _ (rowsN L l) _ (h'.ext HXW.out) hnc' HS6.out (by omega) (by omega)).mono ?_
          rintro e w7 ⟨rfl, hx7⟩
          rw [HSH.out.1, HSH.out.2]
          have HX7 := Lib.hid (HXW.out.trans hx7)
          have HS7 := Lib.hid (HS6.out.ext hx7)
          clear hx7
          go_wp2_with fail
          refine (rupShow_c _ _ _ cl _ _ _ (rowsN L l) _ (h'.ext HX7.out) HS7.out (by omega) (by omega)).mono ?_
          rintro e w8 ⟨rfl, hx8⟩
          rw [HSH.out.1, HSH.out.2]
          have HX8 := Lib.hid (HX7.out.trans hx8)
          clear hx8
          go_wp2_with fail
          refine (law08awake_c _).mono ?_
          rintro e w9 ⟨rfl, hx9⟩
          go_wp2_with fail
          go_ret
          exact ⟨rfl, HX8.out.trans hx9⟩
end Go.Proofs.Ytdhohoabcokdjaa
