/- Layer 4 (cnf): a variable's places, pure literals. -/
import Derived.Test.YtdhohoabcokdjaaCnf5
set_option maxRecDepth 100000
namespace Go.Proofs.Ytdhohoabcokdjaa
open Go.RowKit

set_option maxHeartbeats 2000000 in
theorem balance_c (v : Int) (A : Option Addr) (n c : Nat) (L : List (List Int)) (u : Nat) (w : World) (h : RowsSl w A n L) (hb : ∀ u, pcV L.flatten u ≤ 300 ∧ qcV L.flatten u ≤ 300) (hu1 : 1 ≤ u) (hu2 : (u : Int) ≤ withV 0 L) :
    Calls Try.prog 71 #[.agg #[.int .i64 v, .slice A n c], .int .i64 u] w fun e w' => e = .returned (.tuple #[.int .i64 (pcV L.flatten u : Nat), .int .i64 (qcV L.flatten u : Nat)]) ∧ Ext w w' := by
  have hbu := hb u
  have HB := Lib.hid hb
  clear hb
  obtain ⟨P, hP⟩ : ∃ P, pcV L.flatten u = P := ⟨_, rfl⟩
  obtain ⟨Q, hQ⟩ : ∃ Q, qcV L.flatten u = Q := ⟨_, rfl⟩
  rw [hP, hQ] at hbu
  obtain ⟨hp3, hq3⟩ := hbu
  have hcp := (fl_facts hp3).2.2.2
  have hcq := (fl_facts hq3).2.2.2
  have HP := Lib.hid hP
  have HQ := Lib.hid hQ
  have HCP := Lib.hid hcp
  have HCQ := Lib.hid hcq
  clear hP hQ hcp hcq
  go_enter Try.func71, Try.ntmps71
  go_wp2_with fail
  refine (counts_c _ _ _ _ L _ (h.ext (by (repeat (first | with_reducible exact Ext.refl _ | with_reducible apply Ext.alloc | with_reducible apply Ext.drew | with_reducible apply Ext.drewN | (apply Ext.trans'; assumption))))) HB.out).mono ?_
  rintro e w1 ⟨g, m, c1, rfl, hm, hmc, hC, hx⟩
  have hum : u ≤ m := by omega
  have hcell := hC.cell hum
  rw [HP.out, HQ.out] at hcell
  have hx2 : Ext w w1 := by (repeat (first | with_reducible exact Ext.refl _ | with_reducible apply Ext.alloc | with_reducible apply Ext.drew | with_reducible apply Ext.drewN | (apply Ext.trans'; assumption)))
  have HX := Lib.hid hx2
  have b0 : (1 : Int) ≤ (u : Int) := by omega
  have b1 : (u : Int) < ((m : Int) + 1) := by omega
  have b2 : (u : Int) < (((m + 1 : Nat)) : Int) := by omega
  have hcv1 := fun (W : World) => run_convert_float_int (P := Try.prog) (w := W) 113 3 .f64 .i64 (fl P) (P : Int) (by kernel_rfl) Try.underlying3 HCP.out
  have hcv2 := fun (W : World) => run_convert_float_int (P := Try.prog) (w := W) 113 3 .f64 .i64 (fl Q) (Q : Int) (by kernel_rfl) Try.underlying3 HCQ.out
  clear hC hm hx hx2
  go_wp2_with fail
  go_quiet (fail)
  go_wp2
  go_ret2
  exact ⟨by rw [HP.out, HQ.out]; rfl, HX.out.drewN _⟩

def pureAt (vars : Int) (xs : List Int) (u : Nat) : List Int :=
  if u = 0 ∨ vars < u ∨ (pcV xs u = 0 ∧ qcV xs u = 0) then [] else if qcV xs u = 0 then [(u : Int)] else if pcV xs u = 0 then [-(u : Int)] else []
def pureL (vars : Int) (xs : List Int) (k : Nat) : List Int := (List.range k).flatMap (pureAt vars xs)
theorem pureL_succ (vars : Int) (xs : List Int) (k : Nat) : pureL vars xs (k + 1) = pureL vars xs k ++ pureAt vars xs k := by unfold pureL; rw [List.range_succ, List.flatMap_append]; simp
def pureV (vars : Int) (L : List (List Int)) : List Int := pureL vars L.flatten ((withV 0 L).toNat + 1)
theorem pureAt_len (vars : Int) (xs : List Int) (u : Nat) : (pureAt vars xs u).length ≤ 1 := by unfold pureAt; split <;> (try split) <;> (try split) <;> simp
theorem pureL_len (vars : Int) (xs : List Int) : ∀ k, (pureL vars xs k).length ≤ k
  | 0 => by simp [pureL]
  | k + 1 => by rw [pureL_succ, List.length_append]; have := pureL_len vars xs k; have := pureAt_len vars xs k; omega
theorem pureL_mem {vars : Int} {xs : List Int} {x : Int} : ∀ {k : Nat}, x ∈ pureL vars xs k → ∃ u : Nat, u < k ∧ 1 ≤ u ∧ (u : Int) ≤ vars ∧ ((x = (u : Int) ∧ qcV xs u = 0) ∨ (x = -(u : Int) ∧ pcV xs u = 0))
  | 0, h => by simp [pureL] at h
  | k + 1, h => by
    rw [pureL_succ] at h
    rcases List.mem_append.1 h with h | h
    · obtain ⟨u, h1, h2⟩ := pureL_mem h
      exact ⟨u, by omega, h2⟩
    · unfold pureAt at h
      split at h
      · cases h
      · rename_i h0
        refine ⟨k, by omega, by omega, by omega, ?_⟩
        split at h
        · rename_i hq; exact Or.inl ⟨List.mem_singleton.1 h, hq⟩
        · split at h
          · rename_i hp; exact Or.inr ⟨List.mem_singleton.1 h, hp⟩
          · cases h

/-- What Pure hands back. -/
def RetPure (xs : List Int) (w : World) (e : Ending) (w' : World) : Prop := ∃ A n c, e = .returned (.slice A n c) ∧ IntSl w' A n xs ∧ Ext w w'

set_option maxRecDepth 100000 in
set_option maxHeartbeats 4000000 in
theorem pure_c (v : Int) (A : Option Addr) (n c : Nat) (L : List (List Int)) (w : World) (h : RowsSl w A n L) (hb : ∀ u, pcV L.flatten u ≤ 300 ∧ qcV L.flatten u ≤ 300) :
    Calls Try.prog 45 #[.agg #[.int .i64 v, .slice A n c]] w (RetPure (pureV v L) w) := by
  have HB := Lib.hid hb
  have hwb := withV_le L 0
  obtain ⟨hwb1, hwb2⟩ := hwb
  clear hb
  go_enter Try.func45, Try.ntmps45
  go_wp2_with fail
  refine (counts_c _ _ _ _ L _ (h.ext (by (repeat (first | with_reducible exact Ext.refl _ | with_reducible apply Ext.alloc | with_reducible apply Ext.drew | with_reducible apply Ext.drewN | (apply Ext.trans'; assumption))))) HB.out).mono ?_
  rintro e w1 ⟨g, m, c1, rfl, hm, hmc, hC, hx⟩
  have hmb : m ≤ 100000 := by omega
  have HC := Lib.hid hC
  have HM := Lib.hid hm
  have hx2 : Ext w w1 := by (repeat (first | with_reducible exact Ext.refl _ | with_reducible apply Ext.alloc | with_reducible apply Ext.drew | with_reducible apply Ext.drewN | (apply Ext.trans'; assumption)))
  have hf0 := hx.cell ((Blk.new w 48 #[.int .i64 v, .slice A n c]).cell 0)
  have HX := Lib.hid hx2
  have hszw := hx2.size_le
  clear hC hm hx hx2 hwb1 hwb2
  go_wp2_with fail
  go_loopw [3, 9] (fun o i wr => ∃ k : Nat, k ≤ m + 1 ∧ i = .int .i64 k ∧ OwnI wr w1.heap.size o (pureL v L.flatten k) ∧ Ext w1 wr) (fun _ i _ => m + 1 - (intOf i).toNat)
  case atStart => exact ⟨0, Nat.zero_le _, rfl, OwnI.nil _ _, Ext.refl _⟩
  case round =>
    obtain ⟨k, hk, rfl, ho, hx⟩ := hrel
    have hf1 := hx.cell hf0
    have hlen := pureL_len v L.flatten k
    have hsz := hx.size_le
    have HO := Lib.hid ho
    have HXR := Lib.hid hx
    have HS := Lib.hid (pureL_succ v L.flatten k)
    clear ho hx
    by_cases hlt : k < m + 1
    · have hcell := (HC.out.ext HXR.out).cell (show k ≤ m by omega)
      have hbu := HB.out (k : Int)
      obtain ⟨P, hP⟩ : ∃ P, pcV L.flatten k = P := ⟨_, rfl⟩
      obtain ⟨Q, hQ⟩ : ∃ Q, qcV L.flatten k = Q := ⟨_, rfl⟩
      have HA : Hid (pureAt v L.flatten k = if k = 0 ∨ v < k ∨ (P = 0 ∧ Q = 0) then [] else if Q = 0 then [(k : Int)] else if P = 0 then [-(k : Int)] else []) := by unfold Hid pureAt; rw [hP, hQ]
      rw [hP, hQ] at hcell hbu
      have hpe := (fl_facts hbu.1).2.2.1
      have hqe := (fl_facts hbu.2).2.2.1
      clear hP hQ hbu
      by_cases h0 : k = 0
      · subst h0
        have HR : Hid (pureAt v L.flatten 0 = []) := by unfold Hid; rw [HA.out, if_pos (Or.inl rfl)]
        clear hpe hqe HA
        go_wp2_with fail
        go_roundw
        case rel => exact ⟨0 + 1, by omega, by go_num, by rw [HS.out, HR.out, List.append_nil]; exact HO.out, HXR.out⟩
        case measure => simp [intOf]
      · have hk0 : ((k : Int) == 0) = false := by rw [beq_eq_false_iff_ne]; omega
        by_cases hv : v < (k : Int)
        · have HR : Hid (pureAt v L.flatten k = []) := by unfold Hid; rw [HA.out, if_pos (Or.inr (Or.inl hv))]
          clear hpe hqe HA h0
          go_wp2_with fail
          go_roundw
          case rel => exact ⟨k + 1, by omega, by go_num, by rw [HS.out, HR.out, List.append_nil]; exact HO.out, HXR.out⟩
          case measure => simp [intOf]; omega
        · by_cases hp : P = 0 <;> by_cases hq : Q = 0
          · have HR : Hid (pureAt v L.flatten k = []) := by unfold Hid; rw [HA.out, if_pos (Or.inr (Or.inr ⟨hp, hq⟩))]
            rw [decide_eq_true hp] at hpe
            rw [decide_eq_true hq] at hqe
            clear HA h0 hp hq
            go_wp2_with fail
            go_roundw
            case rel => exact ⟨k + 1, by omega, by go_num, by rw [HS.out, HR.out, List.append_nil]; exact HO.out, HXR.out⟩
            case measure => simp [intOf]; omega
          · have HR : Hid (pureAt v L.flatten k = [-(k : Int)]) := by unfold Hid; rw [HA.out, if_neg (by omega), if_neg hq, if_pos hp]
            rw [decide_eq_true hp] at hpe
            rw [decide_eq_false hq] at hqe
            clear HA h0 hp hq
            go_wp2_with (at_builtin; refine append1 _ rfl (.tmp 39) (.tmp 42) rfl w1.heap.size _ _ rfl (HO.out.alloc _) _ _ _ rfl (cell_one _ _ _) (by omega) (by omega) (by simp; omega) ?_; intro v' w2 ho2 hg2 _; have HO2 := Lib.hid ho2; have HG2 := Lib.hid hg2; clear ho2 hg2)
            go_roundw
            case rel => exact ⟨k + 1, by omega, by go_num, by rw [HS.out, HR.out]; exact HO2.out, Ext.grown (HXR.out.alloc _) HG2.out (fun j hj => (HO.out.blk j hj).1)⟩
            case measure => simp [intOf]; omega
          · have HR : Hid (pureAt v L.flatten k = [(k : Int)]) := by unfold Hid; rw [HA.out, if_neg (by omega), if_pos hq]
            rw [decide_eq_false hp] at hpe
            rw [decide_eq_true hq] at hqe
            clear HA h0 hp hq
            go_wp2_with (at_builtin; refine append1 _ rfl (.tmp 31) (.tmp 33) rfl w1.heap.size _ _ rfl (HO.out.alloc _) _ _ _ rfl (cell_one _ _ _) (by omega) (by omega) (by simp; omega) ?_; intro v' w2 ho2 hg2 _; have HO2 := Lib.hid ho2; have HG2 := Lib.hid hg2; clear ho2 hg2)
            go_roundw
            case rel => exact ⟨k + 1, by omega, by go_num, by rw [HS.out, HR.out]; exact HO2.out, Ext.grown (HXR.out.alloc _) HG2.out (fun j hj => (HO.out.blk j hj).1)⟩
            case measure => simp [intOf]; omega
          · have HR : Hid (pureAt v L.flatten k = []) := by unfold Hid; rw [HA.out, if_neg (by omega), if_neg hq, if_neg hp]
            rw [decide_eq_false hp] at hpe
            rw [decide_eq_false hq] at hqe
            clear HA h0 hp hq
            go_wp2_with fail
            go_roundw
            case rel => exact ⟨k + 1, by omega, by go_num, by rw [HS.out, HR.out, List.append_nil]; exact HO.out, HXR.out⟩
            case measure => simp [intOf]; omega
    · have hkm : k = m + 1 := by omega
      have ho := HO.out
      have hpv : pureL v L.flatten k = pureV v L := by
        unfold pureV
        rw [hkm, ← HM.out, Int.toNat_natCast]
      rw [hpv] at ho hlen
      have hbd : ∀ x ∈ pureV v L, -9223372036854775808 ≤ x ∧ x ≤ 9223372036854775807 := by
        intro x hx
        have hx' : x ∈ pureL v L.flatten k := by rw [hpv]; exact hx
        obtain ⟨u, hu1, hu2, hu3, hu4⟩ := pureL_mem hx'
        rcases hu4 with ⟨e, _⟩ | ⟨e, _⟩ <;> omega
      obtain ⟨A3, n3, c3, rfl, hs3⟩ := ho.sl (by omega) hbd
      have HS3 := Lib.hid hs3
      clear ho hs3 hbd hpv hkm HO
      go_wp2_with fail
      go_ret
      exact ⟨_, _, _, rfl, HS3.out, HX.out.trans HXR.out⟩
end Go.Proofs.Ytdhohoabcokdjaa
