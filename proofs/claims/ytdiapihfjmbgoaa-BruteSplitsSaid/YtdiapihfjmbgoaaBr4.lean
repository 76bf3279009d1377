/- Layer 22 (brute): does some clause fail? -/
import Derived.Test.YtdiapihfjmbgoaaBr3
set_option maxRecDepth 100000
namespace Go.Proofs.Ytdiapihfjmbgoaa
open Go.RowKit

theorem enters_fails : Enters 44 := by
  intro args w
  go_simp
theorem and_m (m y : Nat) (hm : m < 65536) (hy : y < 65536) : (bits .and .u32 (m : Int) (y : Int) == 0) = (m &&& y == 0) := by
  rw [u32_and _ _ (by omega) (by omega)]
  by_cases h : m &&& y = 0
  · rw [h]; rfl
  · have h1 : (((m &&& y : Nat) : Int) == 0) = false := by simpa using h
    rw [h1]; simpa using h
theorem u32_not (m : Nat) (hm : m < 65536) : bits .xor .u32 IntKind.u32.max (m : Int) = ((4294967295 - m : Nat) : Int) := by
  show IntKind.u32.wrap ((BitVec.ofInt 32 4294967295 ^^^ BitVec.ofInt 32 (m : Int)).toNat : Int) = _
  have e : BitVec.ofInt 32 4294967295 = BitVec.allOnes 32 := by decide
  rw [e, BitVec.allOnes_xor, BitVec.toNat_not, ofInt_u32 m (by omega), IntWalk.u32_in _ (by omega)]
theorem and_not (m n : Nat) (_hm : m < 65536) (hn : n < 65536) : (bits .and .u32 ((4294967295 - m : Nat) : Int) (n : Int) == 0) = ((4294967295 - m) &&& n == 0) := by
  rw [u32_and _ _ (by omega) (by omega)]
  by_cases h : (4294967295 - m) &&& n = 0
  · rw [h]; rfl
  · have h1 : ((((4294967295 - m) &&& n : Nat) : Int) == 0) = false := by simpa using h
    rw [h1]; simpa using h
set_option maxHeartbeats 1000000 in
theorem fails_c (b : Addr) (m y n : Nat) (w : World) (hb : w.cell? b = some (.int .u32 m)) (hm : m < 65536) (hy : y < 65536) (hn : n < 65536) :
    Calls Try.prog 44 #[.agg #[.int .u32 y, .int .u32 n], .pointer (some b)] w fun e w' => e = .returned (.bool (failsN m y n)) ∧ Ext w w' := by
  have hX := (Ext.refl w).alloc (Obj.cells #[.int .u32 y, .int .u32 n] 82)
  have a0 := hX.cell hb
  have H1 := Lib.hid (and_m m y hm hy)
  cases h1 : (m &&& y == 0) with
  | false =>
    have HV : Hid (failsN m y n = false) := by unfold Hid failsN; rw [h1]; rfl
    have h2 : (bits .and .u32 (m : Int) (y : Int) == 0) = false := by rw [H1.out, h1]
    clear h1
    go_enter Try.func44, Try.ntmps44
    go_wp2
    go_ret
    exact ⟨ret_bool HV.out.symm, hX⟩
  | true =>
    have HV : Hid (failsN m y n = ((4294967295 - m) &&& n == 0)) := by unfold Hid failsN; rw [h1]; rfl
    have h2 : (bits .and .u32 (m : Int) (y : Int) == 0) = true := by rw [H1.out, h1]
    clear h1
    go_enter Try.func44, Try.ntmps44
    go_wp2
    all_goals
      go_ret
      exact ⟨ret_bool (by rw [HV.out, u32_not m hm, and_not m n hm hn]), hX⟩

set_option maxHeartbeats 1000000 in
theorem idxPairs_c (g n : Nat) (pre : Nat → List Int) (b : Addr) (m : Nat) (w : World) (h : PairB w g n pre) (hb : w.cell? b = some (.int .u32 m)) (hm : m < 65536) (hp : ∀ i, i < n → yesN (pre i) < 65536 ∧ noN (pre i) < 65536) (hsm : n ≤ 1000000) :
    Calls Try.prog 55 #[.slice (some ⟨g, 0, none⟩) n n, .func (.func 44) #[] #[.pointer (some b)]] w fun e w' => e = .returned (.int .i64 (idxP (fun i => failsN m (yesN (pre i)) (noN (pre i))) (List.range n))) ∧ Ext w w' := by
  go_enter Try.func55, Try.ntmps55
  go_wp2
  go_loopw [5, 8] (fun _ i wr => ∃ k : Nat, k ≤ n ∧ i = .int .i64 k ∧ ((List.range n).take k).findIdx? (fun i => failsN m (yesN (pre i)) (noN (pre i))) = none ∧ Ext w wr) (fun _ i _ => n - (intOf i).toNat)
  case atStart => exact ⟨0, Nat.zero_le _, rfl, rfl, Ext.refl _⟩
  case round =>
    obtain ⟨k, hk, rfl, hno, hx⟩ := hrel
    have HN := Lib.hid hno
    have HX := Lib.hid hx
    clear hno hx
    by_cases hlt : k < n
    · have hr : Hid ((List.range n)[k]? = some k) := Lib.hid (by simp [hlt])
      obtain ⟨c0, c1⟩ := (h.ext HX.out).cells hlt
      obtain ⟨hy1, hy2⟩ := hp k hlt
      have HB := Lib.hid (HX.out.cell hb)
      cases hv : failsN m (yesN (pre k)) (noN (pre k)) with
      | true =>
        have HV := Lib.hid hv
        clear hv
        go_wp2_with fail
        refine (fails_c b m _ _ _ HB.out hm hy1 hy2).mono ?_
        rintro e w' ⟨rfl, hx1⟩
        rw [HV.out]
        have HX1 := Lib.hid (HX.out.trans hx1)
        clear hx1
        go_wp2
        go_ret
        exact ⟨ret_int (by rw [idxP, findIdx_hit HN.out hr.out HV.out]), HX1.out⟩
      | false =>
        have HV := Lib.hid hv
        clear hv
        go_wp2_with fail
        refine (fails_c b m _ _ _ HB.out hm hy1 hy2).mono ?_
        rintro e w' ⟨rfl, hx1⟩
        rw [HV.out]
        have HX1 := Lib.hid (HX.out.trans hx1)
        clear hx1
        go_wp2
        go_roundw
        case rel => exact ⟨k + 1, by omega, by go_num, findIdx_snoc_none HN.out hr.out HV.out, HX1.out⟩
        case measure => simp [intOf]; omega
    · go_wp2
      go_ret
      refine ⟨ret_int ?_, HX.out⟩
      have := HN.out
      rw [take_len_of (by simp) hlt] at this
      rw [idxP, this]
theorem hasPairs_c (g n : Nat) (pre : Nat → List Int) (b : Addr) (m : Nat) (w : World) (h : PairB w g n pre) (hb : w.cell? b = some (.int .u32 m)) (hm : m < 65536) (hp : ∀ i, i < n → yesN (pre i) < 65536 ∧ noN (pre i) < 65536) (hsm : n ≤ 1000000) :
    Calls Try.prog 45 #[.slice (some ⟨g, 0, none⟩) n n, .func (.func 44) #[] #[.pointer (some b)]] w fun e w' => e = .returned (.bool ((List.range n).any (fun i => failsN m (yesN (pre i)) (noN (pre i))))) ∧ Ext w w' := by
  have hge : decide (0 ≤ idxP (fun i => failsN m (yesN (pre i)) (noN (pre i))) (List.range n)) = (List.range n).any (fun i => failsN m (yesN (pre i)) (noN (pre i))) := by
    cases hv : (List.range n).any (fun i => failsN m (yesN (pre i)) (noN (pre i))) with
    | true =>
      rw [decide_eq_true_eq]
      rw [List.any_eq_true] at hv
      obtain ⟨i, hi, h1⟩ := hv
      rcases Int.lt_or_le (idxP (fun i => failsN m (yesN (pre i)) (noN (pre i))) (List.range n)) 0 with hl | hl
      · rw [idxP_neg, List.findIdx?_eq_none_iff] at hl
        have := hl i hi
        simp [h1] at this
      · exact hl
    | false =>
      rw [decide_eq_false_iff_not]
      intro hl
      rw [List.any_eq_false] at hv
      have : idxP (fun i => failsN m (yesN (pre i)) (noN (pre i))) (List.range n) < 0 := by
        rw [idxP_neg, List.findIdx?_eq_none_iff]
        intro i hi
        simpa using hv i hi
      omega
  have HG := Lib.hid hge
  clear hge
  go_enter Try.func45, Try.ntmps45
  go_wp2_with fail
  refine (idxPairs_c g n pre b m w h hb hm hp hsm).mono ?_
  rintro e w1 ⟨rfl, hx1⟩
  go_wp2_with fail
  go_ret
  exact ⟨ret_bool HG.out, hx1⟩
end Go.Proofs.Ytdiapihfjmbgoaa
