/- Layer 7 (units): an assignment that grows, and what a clause's literals are in it. -/
import Derived.Test.YthkjcdkdfeckbaaAssign4
namespace Go.Proofs.Ythkjcdkdfeckbaa
open Go.RowKit Go.Maps

/-- What look tells. -/
def lookH (l c : List Int) : Bool := decide (0 < cnV l c 1)
def lookO (l c : List Int) : Int := if lookH l c then 0 else openV l c
def lookM (l c : List Int) : Int := if lookH l c then 0 else min 2 (cnV l c 0)

set_option maxHeartbeats 1000000 in
theorem begin_c (A : Option Addr) (n c : Nat) (xs : List Int) (w : World) (h : IntSl w A n xs) (hsm : n ≤ 1000000000000) :
    Calls Try.prog 45 #[.slice A n c] w fun e w' => ∃ g b, e = .returned (.pointer (some ⟨g, 0, none⟩)) ∧ Blk w' g 69 #[.map (some b)] ∧ Cnt w' b xs.length (cntV xs) ∧ w.heap.size ≤ g ∧ w.heap.size ≤ b ∧ g ≠ b ∧ Ext w w' := by
  have hmm := fun (n : Int) (W : World) => run_makeMap_hint (P := Try.prog) 67 3 3 .i64 n Try.underlying67 W
  go_enter Try.func45, Try.ntmps45
  go_wp2
  go_loopw [13] (fun i wr => ∃ k : Nat, k ≤ n ∧ i = .int .i64 k ∧ Cnt wr w.heap.size k (cntV (xs.take k)) ∧ Blk wr (w.heap.size + 1) 69 #[.map (some w.heap.size)] ∧ Ext w wr) (fun i _ => n - (intOf i).toNat)
  case atStart =>
    refine ⟨0, Nat.zero_le _, rfl, ?_, ?_, ((Ext.refl _).alloc _).alloc _⟩
    · rw [List.take_zero, cntV_nil]; exact (Cnt.made w).ext ((Ext.refl _).alloc _)
    · have := Blk.new (w.alloc (.map #[] 0)) 69 #[Value.map (some w.heap.size)]
      rw [World.size_alloc] at this
      exact this
  case round =>
    obtain ⟨k, hk, rfl, hc, hb, hx⟩ := hrel
    have HC := Lib.hid hc
    have HB := Lib.hid hb
    have HX := Lib.hid hx
    have cb := hb.cell 0
    clear hc hb hx
    by_cases hlt : k < n
    · obtain ⟨ad, x, rfl, hx, hcx, hx1, hx2⟩ := (h.ext HX.out).at_ hlt
      have hbd := cntV_bd (xs.take k) x
      have hbl : (xs.take k).length ≤ k := List.length_take_le _ _
      have hb1 := hbd.1
      have hb2 : cntV (xs.take k) x ≤ 1000000000000 := by omega
      clear hbd hbl
      go_wp2_with (first
        | (at_lookup; refine wpList_look _ rfl _ _ rfl _ _ _ rfl HC.out _ rfl ⟨hx1, hx2⟩ ?_)
        | (at_mapUpdate; refine wpList_setm _ rfl _ _ _ rfl _ _ _ rfl HC.out (by omega) _ _ rfl rfl ⟨hx1, hx2⟩ (by omega) ?_; intro w2 hc2 hg2; have HC2 := Lib.hid hc2; have HG2 := Lib.hid hg2; clear hc2 hg2))
      go_roundw
      case rel =>
        refine ⟨k + 1, by omega, by go_num, ?_, HB.out.keep (HG2.out.block _ HB.out.lt (by simp)), HX.out.grown HG2.out (fun j hj => by cases hj; exact Nat.le_refl _)⟩
        rw [take_succ_of hx.out, ← cntV_snoc]
        exact HC2.out
      case measure => simp [intOf]; omega
    · go_wp2
      go_ret
      refine ⟨_, _, rfl, HB.out, ?_, by omega, by omega, by omega, HX.out⟩
      have := HC.out
      rw [take_len_of h.1 hlt] at this
      exact this.mono (by have := h.1; omega)

set_option maxHeartbeats 2000000 in
theorem look_c (g b kk : Nat) (l : List Int) (A : Option Addr) (n c : Nat) (cl : List Int) (w : World) (hp : w.cell? ⟨g, 0, none⟩ = some (.map (some b))) (hc : Cnt w b kk (cntV l)) (h : IntSl w A n cl) :
    Calls Try.prog 47 #[.pointer (some ⟨g, 0, none⟩), .slice A n c] w fun e w' => e = .returned (.tuple #[.int .i64 (lookO l cl), .int .i64 (lookM l cl), .bool (lookH l cl)]) ∧ w = w' := by
  have hn := h.len
  have HC := Lib.hid hc
  clear hc
  go_enter Try.func47, Try.ntmps47
  go_wp2
  go_loop [4, 5, 11] (fun o m i => ∃ (k : Nat) (y z : Int), k ≤ n ∧ i = .int .i64 k ∧ o = .int .i64 y ∧ m = .int .i64 z ∧ cnV l (cl.take k) 1 = 0 ∧ y = openV l (cl.take k) ∧ z = min 2 (cnV l (cl.take k) 0)) (fun _ _ i => n - (intOf i).toNat)
  case atStart => exact ⟨0, 0, 0, Nat.zero_le _, rfl, rfl, rfl, rfl, rfl, rfl⟩
  case round =>
    obtain ⟨k, y, z, hk, rfl, rfl, rfl, h1, hy, hz⟩ := hrel
    have H1 := Lib.hid h1
    have HY := Lib.hid hy
    have HZ := Lib.hid hz
    clear h1 hy hz
    by_cases hlt : k < n
    · obtain ⟨ad, x, rfl, hx, hcx, hx1, hx2⟩ := h.at_ hlt
      have HT := Lib.hid (take_succ_of hx.out)
      have S1 := Lib.hid (cnV_snoc l (cl.take k) x 1)
      have S0 := Lib.hid (cnV_snoc l (cl.take k) x 0)
      have HF := Lib.hid (rUnit_snoc (l := l) hx.out)
      by_cases hv : varV x = 0
      · have hvb : (varV x == 0) = true := by simpa using hv
        have HV := Lib.hid hv
        clear hv
        go_wp2_with (go_at_call 62; refine (var_c _ _).mono ?_; rintro e w' ⟨rfl, rfl⟩)
        go_round
        case rel =>
          exact ⟨k + 1, y, z, by omega, by go_num, rfl, rfl, by rw [HT.out, S1.out, if_neg (by simp [HV.out]), H1.out]; rfl, by rw [openV, HF.out, if_neg (by simp [opP, HV.out]), List.append_nil]; exact HY.out, by rw [HT.out, S0.out, if_neg (by simp [HV.out]), Int.add_zero]; exact HZ.out⟩
        case measure => simp [intOf]; omega
      · obtain ⟨_, hxa, hxb⟩ := varV_pos hv
        have hvb : (varV x == 0) = false := by simpa using hv
        have HV := Lib.hid hv
        clear hv
        have e1 := hasV_cnt l x
        have e2 := hasV_cnt l (-x)
        have hval : valueV l x = if hasV l x then 1 else if hasV l (-x) then -1 else 0 := by rw [valueV, if_neg HV.out]
        rw [← e1, ← e2] at hval
        have HVAL := Lib.hid hval
        clear e1 e2 hval
        by_cases c1 : 0 < cntV l x
        · have hv1 : valueV l x = 1 := by rw [HVAL.out, decide_eq_true c1]; rfl
          have hh : lookH l cl = true := by
            unfold lookH
            rw [decide_eq_true_eq]
            unfold cnV
            rw [Int.natCast_pos, List.countP_pos_iff]
            exact ⟨x, List.mem_of_getElem? hx.out, by simp [HV.out, hv1]⟩
          have HH := Lib.hid hh
          clear hv1 hh
          go_wp2_with (first
            | (go_at_call 62; refine (var_c _ _).mono ?_; rintro e w' ⟨rfl, rfl⟩)
            | (at_lookup; refine wpList_look _ rfl _ _ rfl _ _ _ rfl HC.out _ rfl (by omega) ?_))
          go_ret3
          exact ⟨by rw [lookO, lookM, HH.out]; rfl, rfl⟩
        · by_cases c2 : 0 < cntV l (-x)
          · have hv1 : valueV l x = -1 := by rw [HVAL.out, decide_eq_false c1, decide_eq_true c2]; rfl
            have HV1 := Lib.hid hv1
            clear hv1
            go_wp2_with (first
              | (go_at_call 62; refine (var_c _ _).mono ?_; rintro e w' ⟨rfl, rfl⟩)
              | (at_lookup; refine wpList_look _ rfl _ _ rfl _ _ _ rfl HC.out _ rfl (by omega) ?_))
            go_round
            case rel =>
              exact ⟨k + 1, y, z, by omega, by go_num, rfl, rfl, by rw [HT.out, S1.out, if_neg (by simp [HV1.out]), H1.out]; rfl, by rw [openV, HF.out, if_neg (by simp [opP, HV1.out]), List.append_nil]; exact HY.out, by rw [HT.out, S0.out, if_neg (by simp [HV1.out]), Int.add_zero]; exact HZ.out⟩
            case measure => simp [intOf]; omega
          · have hv1 : valueV l x = 0 := by rw [HVAL.out, decide_eq_false c1, decide_eq_false c2]; rfl
            have HV1 := Lib.hid hv1
            clear hv1
            have hcb := (cnV_bd l (cl.take k) 0).1
            have hzz : z = 0 ∨ z = 1 ∨ z = 2 := by have := HZ.out; omega
            have hlen := cnV_filter l (cl.take k)
            have HLEN := Lib.hid hlen
            clear hlen
            by_cases hz0 : z = 0
            · subst hz0
              go_wp2_with (first
                | (go_at_call 62; refine (var_c _ _).mono ?_; rintro e w' ⟨rfl, rfl⟩)
                | (at_lookup; refine wpList_look _ rfl _ _ rfl _ _ _ rfl HC.out _ rfl (by omega) ?_))
              go_round
              case rel =>
                have hc0 : cnV l (cl.take k) 0 = 0 := by have := HZ.out; omega
                have hnil : (cl.take k).filter (opP l) = [] := List.eq_nil_of_length_eq_zero (by have := HLEN.out; omega)
                exact ⟨k + 1, _, _, by omega, by go_num, rfl, rfl, by rw [HT.out, S1.out, if_neg (by simp [HV1.out]), H1.out]; rfl, by rw [openV, HF.out, if_pos (by simp [opP, HV.out, HV1.out]), hnil]; rfl, by rw [HT.out, S0.out, if_pos ⟨HV.out, HV1.out⟩, hc0]; rfl⟩
              case measure => simp [intOf]; omega
            · have hzb : (z == 0) = false := by simpa using hz0
              go_wp2_with (first
                | (go_at_call 62; refine (var_c _ _).mono ?_; rintro e w' ⟨rfl, rfl⟩)
                | (at_lookup; refine wpList_look _ rfl _ _ rfl _ _ _ rfl HC.out _ rfl (by omega) ?_))
              go_round
              case rel =>
                have hc0 : 1 ≤ cnV l (cl.take k) 0 := by have := HZ.out; omega
                have hne : (cl.take k).filter (opP l) ≠ [] := fun e => by have := HLEN.out; rw [e] at this; simp at this; omega
                refine ⟨k + 1, _, _, by omega, by go_num, rfl, rfl, by rw [HT.out, S1.out, if_neg (by simp [HV1.out]), H1.out]; rfl, ?_, by rw [HT.out, S0.out, if_pos ⟨HV.out, HV1.out⟩]; omega⟩
                have ey := HY.out
                unfold openV at ey ⊢
                obtain ⟨a, at_, hq⟩ := List.exists_cons_of_ne_nil hne
                rw [ey, HF.out, hq]
                rfl
              case measure => simp [intOf]; omega
    · have h1 := H1.out
      have hy := HY.out
      have hz := HZ.out
      rw [take_len_of h.1 hlt] at h1 hy hz
      have hh : lookH l cl = false := by unfold lookH; rw [h1]; rfl
      have HH := Lib.hid hh
      have HY := Lib.hid hy
      have HZ := Lib.hid hz
      clear h1 hy hz hh
      go_wp2
      go_ret3
      exact ⟨by rw [lookO, lookM, HH.out, HY.out, HZ.out]; rfl, rfl⟩
end Go.Proofs.Ythkjcdkdfeckbaa
