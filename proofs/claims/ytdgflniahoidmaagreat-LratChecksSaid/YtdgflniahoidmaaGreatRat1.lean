/- Layer 9 (rat): Candidates, Refute, Flip. -/
import Derived.Test.YtdgflniahoidmaaGreatRup1
import Derived.Test.YtdgflniahoidmaaGreatNB
import Derived.Test.YtdgflniahoidmaaGreatMapV
set_option maxRecDepth 100000
namespace Go.Proofs.YtdgflniahoidmaaGreat
open Go.RowKit

theorem chas_c (A : Option Addr) (n c : Nat) (xs : List Int) (x : Int) (w : World) (h : IntSl w A n xs) :
    Calls Tryz.prog 113 #[.slice A n c, .int .i64 x] w fun e w' => e = .returned (.bool (has2V xs x)) ∧ w = w' := by
  have hb := varV_bd x
  by_cases hv : varV x = 0
  · have HR : Hid (has2V xs x = false) := by unfold Hid has2V; rw [hv]; rfl
    have HV := Lib.hid hv
    clear hv hb
    go_enter Tryz.func113, Tryz.ntmps113
    go_wp2_with fail
    refine (var_c _ _).mono ?_
    rintro e w' ⟨rfl, rfl⟩
    rw [HV.out]
    go_wp2_with fail
    go_ret
    exact ⟨ret_bool HR.out.symm, rfl⟩
  · have HR : Hid (has2V xs x = hasV xs x) := by unfold Hid has2V; rw [decide_eq_true hv, Bool.true_and]
    have hi : 0 < varV x := by omega
    clear hv hb
    go_enter Tryz.func113, Tryz.ntmps113
    go_wp2_with fail
    refine (var_c _ _).mono ?_
    rintro e w' ⟨rfl, rfl⟩
    go_wp2_with fail
    refine (contains_c _ _ _ xs _ _ h).mono ?_
    rintro e w' ⟨rfl, rfl⟩
    go_wp2_with fail
    go_ret
    exact ⟨ret_bool HR.out.symm, rfl⟩

def candL (p : Int) (L : List (List Int)) (k : Nat) : List Int := ((List.range k).filter fun i => has2V (L.getD i []) (negV p)).map fun (i : Nat) => (i : Int)
def candV (p : Int) (L : List (List Int)) : List Int := candL p L L.length
theorem candL_succ (p : Int) (L : List (List Int)) (k : Nat) : candL p L (k + 1) = candL p L k ++ (if has2V (L.getD k []) (negV p) then [(k : Int)] else []) := by
  unfold candL
  rw [List.range_succ, List.filter_append, List.map_append]
  congr 1
  rw [List.filter_cons]
  split <;> rfl
theorem candL_len (p : Int) (L : List (List Int)) (k : Nat) : (candL p L k).length ≤ k := by
  unfold candL
  rw [List.length_map]
  exact Nat.le_trans (List.length_filter_le _ _) (by rw [List.length_range]; exact Nat.le_refl _)
theorem candL_mem {p : Int} {L : List (List Int)} {k : Nat} {x : Int} (h : x ∈ candL p L k) : ∃ i : Nat, x = (i : Int) ∧ i < k ∧ has2V (L.getD i []) (negV p) = true := by
  unfold candL at h
  obtain ⟨i, hi, rfl⟩ := List.mem_map.1 h
  obtain ⟨h1, h2⟩ := List.mem_filter.1 hi
  exact ⟨i, rfl, List.mem_range.1 h1, h2⟩

set_option maxHeartbeats 1000000 in
theorem cands_c (A : Option Addr) (n c : Nat) (L : List (List Int)) (p : Int) (w : World) (h : RowsSl w A n L) (hsm : n ≤ 1000000000) :
    Calls Tryz.prog 94 #[.slice A n c, .int .i64 p] w (RetOwn (candV p L) w) := by
  have hN0 : has2V [] 0 = false := rfl
  have HLn := Lib.hid h.1
  go_enter Tryz.func94, Tryz.ntmps94
  go_wp2_with fail
  go_loopw [5, 11] (fun o i wr => ∃ k : Nat, k ≤ n ∧ i = .int .i64 k ∧ OwnI wr w.heap.size o (candL p L k) ∧ Ext w wr) (fun _ i _ => n - (intOf i).toNat)
  case atStart => exact ⟨0, Nat.zero_le _, rfl, OwnI.nil _ _, Ext.refl _⟩
  case round =>
    obtain ⟨k, hk, rfl, ho, hx⟩ := hrel
    have hlen := candL_len p L k
    have hsz := hx.size_le
    have HO := Lib.hid ho
    have HX := Lib.hid hx
    clear ho hx
    by_cases hlt : k < n
    · obtain ⟨ad, xs, A1, n1, c1, rfl, hx, hcx, hrow⟩ := (h.ext HX.out).at_ hlt
      have HS : Hid (candL p L (k + 1) = candL p L k ++ (if has2V xs (negV p) then [(k : Int)] else [])) := by
        unfold Hid
        rw [candL_succ, List.getD_eq_getElem?_getD, hx.out]; rfl
      by_cases hn : negV p = 0
      · have HR : Hid (has2V xs (negV p) = false) := by unfold Hid; rw [hn]; rfl
        have HN := Lib.hid hn
        clear hn
        go_wp2_with fail
        refine (neg_c _ _).mono ?_
        rintro e w' ⟨rfl, rfl⟩
        rw [HN.out]
        go_wp2_with fail
        go_roundw
        case rel => exact ⟨k + 1, by omega, by go_num, by rw [HS.out, HR.out, if_neg (by simp), List.append_nil]; exact HO.out, HX.out⟩
        case measure => simp [intOf]; omega
      · have hn1 : (negV p != 0) = true := by simpa using hn
        clear hn
        cases hc : has2V xs (negV p) with
        | false =>
          have HR := Lib.hid hc
          clear hc
          go_wp2_with fail
          refine (neg_c _ _).mono ?_
          rintro e w' ⟨rfl, rfl⟩
          go_wp2_with fail
          refine (chas_c _ _ _ xs _ _ hrow).mono ?_
          rintro e w' ⟨rfl, rfl⟩
          rw [HR.out]
          go_wp2_with fail
          go_roundw
          case rel => exact ⟨k + 1, by omega, by go_num, by rw [HS.out, HR.out, if_neg (by simp), List.append_nil]; exact HO.out, HX.out⟩
          case measure => simp [intOf]; omega
        | true =>
          have HR := Lib.hid hc
          clear hc
          go_wp2_with fail
          refine (neg_c _ _).mono ?_
          rintro e w' ⟨rfl, rfl⟩
          go_wp2_with fail
          refine (chas_c _ _ _ xs _ _ hrow).mono ?_
          rintro e w' ⟨rfl, rfl⟩
          rw [HR.out]
          go_wp2_with (at_builtin; refine append1 _ rfl (.tmp 25) (.tmp 27) rfl w.heap.size _ _ rfl (HO.out.alloc _) _ _ _ rfl (cell_one _ _ _) (by omega) (by omega) (by simp; omega) ?_; intro v' w2 ho2 hg2 _; have HO2 := Lib.hid ho2; have HG2 := Lib.hid hg2; clear ho2 hg2)
          go_roundw
          case rel => exact ⟨k + 1, by omega, by go_num, by rw [HS.out, HR.out, if_pos rfl]; exact HO2.out, Ext.grown (HX.out.alloc _) HG2.out (fun j hj => (HO.out.blk j hj).1)⟩
          case measure => simp [intOf]; omega
    · have hkn : k = n := by omega
      have ho := HO.out
      rw [hkn, ← HLn.out] at ho
      have HO' : Hid (OwnI wr w.heap.size _ (candV p L)) := ho
      clear ho HO
      go_wp2_with fail
      go_ret
      exact ⟨_, rfl, HO'.out, HX.out⟩

/-! ### Refute -/
def refGo (p : Int) : List Int → List Int → Option (List Int)
  | o, [] => some o
  | o, x :: xs => if varV x = 0 ∨ x = negV p then refGo p o xs else if valueV o x = 1 then none else if valueV o x = 0 then refGo p (o ++ [-x]) xs else refGo p o xs
def refuteV (l cand : List Int) (p : Int) (hs : List (List Int)) : Int := match refGo p l cand with | none => 0 | some o => if (chainV o hs 0).2.2 = 0 then 0 else 24

set_option maxHeartbeats 2000000 in
theorem refute_c (A : Option Addr) (n c : Nat) (l : List Int) (A1 : Option Addr) (n1 c1 : Nat) (cand : List Int) (p : Int) (A2 : Option Addr) (n2 c2 : Nat) (hs : List (List Int)) (w : World) (h : IntSl w A n l) (h1 : IntSl w A1 n1 cand) (h2 : RowsSl w A2 n2 hs) (hsm : n ≤ 10000000) (hsm1 : n1 ≤ 10000000) (hsm2 : n2 ≤ 10000000) :
    Calls Tryz.prog 93 #[.slice A n c, .slice A1 n1 c1, .int .i64 p, .slice A2 n2 c2] w fun e w' => e = .returned (.int .i64 (refuteV l cand p hs)) ∧ Ext w w' := by
  have HLL := Lib.hid h.1
  have HBL := Lib.hid h.2.2.1
  have HL1 := Lib.hid h1.1
  go_enter Tryz.func93, Tryz.ntmps93
  go_wp2_with fail
  refine (clone_c _ _ _ l _ h (by omega)).mono ?_
  rintro e w1 ⟨v, rfl, hv, hx1⟩
  have HV := Lib.hid hv
  have HX1 := Lib.hid hx1
  clear hv hx1
  go_wp2_with fail
  go_loopw [9, 19] (fun o i wr => ∃ (k : Nat) (lc : List Int), k ≤ n1 ∧ i = .int .i64 k ∧ refGo p l cand = refGo p lc (cand.drop k) ∧ lc.length ≤ n + k ∧ (∀ x ∈ lc, -9223372036854775808 ≤ x ∧ x ≤ 9223372036854775807) ∧ OwnI wr w.heap.size o lc ∧ Ext w wr) (fun _ i _ => n1 - (intOf i).toNat)
  case atStart => exact ⟨0, l, Nat.zero_le _, rfl, rfl, by have := HLL.out; omega, HBL.out, HV.out, HX1.out⟩
  case round =>
    obtain ⟨k, lc, hk, rfl, hch, hlc, hbd, ho, hx⟩ := hrel
    obtain ⟨Ao, no, co, rfl, hso, hnc⟩ := ho.slc (by omega) hbd
    have hsz := hx.size_le
    have HNO := Lib.hid hso.1
    have hno : no ≤ 20000000 := by have := hso.1; omega
    have HC := Lib.hid hch
    have HLC := Lib.hid hlc
    have HB := Lib.hid hbd
    have HO := Lib.hid ho
    have HSO := Lib.hid hso
    have HX := Lib.hid hx
    clear hch hlc hbd ho hso hx
    by_cases hlt : k < n1
    · obtain ⟨ad, x, rfl, hx, hcx, hx1, hx2⟩ := (h1.ext HX.out).at_ hlt
      have HD := Lib.hid (drop_cons hx.out)
      by_cases hv0 : varV x = 0
      · have HR : Hid (refGo p l cand = refGo p lc (cand.drop (k + 1))) := by unfold Hid; rw [HC.out, HD.out, refGo, if_pos (Or.inl hv0)]
        have HV0 := Lib.hid hv0
        clear hv0
        go_wp2_with fail
        refine (var_c _ _).mono ?_
        rintro e w' ⟨rfl, rfl⟩
        rw [HV0.out]
        go_wp2_with fail
        go_roundw
        case rel => exact ⟨k + 1, lc, by omega, by go_num, HR.out, by have := HLC.out; omega, HB.out, HO.out, HX.out⟩
        case measure => simp [intOf]; omega
      · have hvb := varV_pos hv0
        obtain ⟨_, hv3, hv4⟩ := hvb
        have hv1 : (varV x == 0) = false := by simpa using hv0
        by_cases hxn : x = negV p
        · have HR : Hid (refGo p l cand = refGo p lc (cand.drop (k + 1))) := by unfold Hid; rw [HC.out, HD.out, refGo, if_pos (Or.inr hxn)]
          have hxn1 : (x == negV p) = true := by simpa using hxn
          clear hxn hv0
          go_wp2_with fail
          refine (var_c _ _).mono ?_
          rintro e w' ⟨rfl, rfl⟩
          go_wp2_with fail
          refine (neg_c _ _).mono ?_
          rintro e w' ⟨rfl, rfl⟩
          go_wp2_with fail
          go_roundw
          case rel => exact ⟨k + 1, lc, by omega, by go_num, HR.out, by have := HLC.out; omega, HB.out, HO.out, HX.out⟩
          case measure => simp [intOf]; omega
        · have hxn1 : (x == negV p) = false := by simpa using hxn
          have HR0 : Hid (refGo p l cand = if valueV lc x = 1 then none else if valueV lc x = 0 then refGo p (lc ++ [-x]) (cand.drop (k + 1)) else refGo p lc (cand.drop (k + 1))) := by unfold Hid; rw [HC.out, HD.out, refGo, if_neg (by rintro (e | e); exact hv0 e; exact hxn e)]
          clear hxn hv0
          have hvb := valueV_bd lc x
          obtain ⟨q, hq⟩ : ∃ q, valueV lc x = q := ⟨_, rfl⟩
          rw [hq] at hvb
          have HQ := Lib.hid hq
          clear hq
          go_wp2_with fail
          refine (var_c _ _).mono ?_
          rintro e w' ⟨rfl, rfl⟩
          go_wp2_with fail
          refine (neg_c _ _).mono ?_
          rintro e w' ⟨rfl, rfl⟩
          go_wp2_with fail
          refine (value_c _ _ _ lc _ _ HSO.out).mono ?_
          rintro e w' ⟨rfl, rfl⟩
          rw [HQ.out]
          have hq3 : q = 1 ∨ q = 0 ∨ q = -1 := by omega
          clear hvb
          rcases hq3 with rfl | rfl | rfl
          · have HR : Hid (refuteV l cand p hs = 0) := by unfold Hid refuteV; rw [HR0.out, if_pos HQ.out]
            go_wp2_with fail
            go_ret
            exact ⟨ret_int HR.out.symm, HX.out⟩
          · have HR : Hid (refGo p l cand = refGo p (lc ++ [-x]) (cand.drop (k + 1))) := by unfold Hid; rw [HR0.out, if_neg (by rw [HQ.out]; decide), if_pos HQ.out]
            go_wp2_with (at_builtin; refine append1 _ rfl (.tmp 39) (.tmp 42) rfl w.heap.size _ lc rfl (HO.out.alloc _) _ _ _ rfl (cell_one _ _ _) (by omega) (by have := HLC.out; omega) (by simp; omega) ?_; intro v' w2 ho2 hg2 _; have HO2 := Lib.hid ho2; have HG2 := Lib.hid hg2; clear ho2 hg2)
            go_roundw
            case rel => exact ⟨k + 1, lc ++ [-x], by omega, by go_num, HR.out, by have := HLC.out; simp; omega, fun y hy => (List.mem_append.1 hy).elim (HB.out y) (fun e => by rw [List.mem_singleton.1 e]; omega), HO2.out, Ext.grown (HX.out.alloc _) HG2.out (fun j hj => (HO.out.blk j hj).1)⟩
            case measure => simp [intOf]; omega
          · have HR : Hid (refGo p l cand = refGo p lc (cand.drop (k + 1))) := by unfold Hid; rw [HR0.out, if_neg (by rw [HQ.out]; decide), if_neg (by rw [HQ.out]; decide)]
            go_wp2_with fail
            go_roundw
            case rel => exact ⟨k + 1, lc, by omega, by go_num, HR.out, by have := HLC.out; omega, HB.out, HO.out, HX.out⟩
            case measure => simp [intOf]; omega
    · have HR : Hid (refGo p l cand = some lc) := by
        unfold Hid
        rw [HC.out, List.drop_of_length_le (by have := HL1.out; omega)]; rfl
      go_wp2_with fail
      refine (rupChain_c _ _ _ lc _ _ _ hs _ HSO.out (h2.ext HX.out) (by omega) (by omega)).mono ?_
      rintro e w2 ⟨A3, n3, c3, rfl, _, hx2⟩
      have HX2 := Lib.hid hx2
      clear hx2
      by_cases he : (chainV lc hs 0).2.2 = 0
      · have HR2 : Hid (refuteV l cand p hs = 0) := by unfold Hid refuteV; rw [HR.out]; exact if_pos he
        rw [he]
        clear he
        go_wp2_with fail
        go_ret
        exact ⟨ret_int HR2.out.symm, HX.out.trans HX2.out⟩
      · have HR2 : Hid (refuteV l cand p hs = 24) := by unfold Hid refuteV; rw [HR.out]; exact if_neg he
        have he1 : ((chainV lc hs 0).2.2 != 0) = true := by simpa using he
        clear he
        go_wp2_with fail
        go_ret
        exact ⟨ret_int HR2.out.symm, HX.out.trans HX2.out⟩
end Go.Proofs.YtdgflniahoidmaaGreat
