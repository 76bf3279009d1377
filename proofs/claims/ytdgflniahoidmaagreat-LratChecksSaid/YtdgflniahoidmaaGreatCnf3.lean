/- Layer 4 (cnf): Check; the greatest variable; how many numbers; are two the same. -/
import Derived.Test.YtdgflniahoidmaaGreatCnf2
import Derived.Test.YtdgflniahoidmaaGreatOwnRows
set_option maxRecDepth 100000
namespace Go.Proofs.YtdgflniahoidmaaGreat
open Go.RowKit

def mostV (xs : List Int) : Int := xs.foldl (fun m x => max m (varV x)) 0
theorem mostV_snoc (xs : List Int) (x : Int) : mostV (xs ++ [x]) = max (mostV xs) (varV x) := by simp [mostV]
theorem mostV_bd (xs : List Int) : 0 ≤ mostV xs ∧ mostV xs ≤ 100000 := by
  unfold mostV
  suffices h : ∀ (xs : List Int) (m : Int), 0 ≤ m → m ≤ 100000 → 0 ≤ xs.foldl (fun m x => max m (varV x)) m ∧ xs.foldl (fun m x => max m (varV x)) m ≤ 100000 from h xs 0 (by decide) (by decide)
  intro xs
  induction xs with
  | nil => intro m h1 h2; exact ⟨h1, h2⟩
  | cons x xs ih => intro m h1 h2; have := varV_bd x; exact ih (max m (varV x)) (by omega) (by omega)

/-- What Check tells of the clauses from one on. -/
def chkV (v : Int) : List (List Int) → Nat → Int × Int
  | [], i => ((i : Int), 0)
  | c :: L, i => if cCheckV c v ≠ 0 then ((i : Int), cCheckV c v) else if tautV c then ((i : Int), 11) else chkV v L (i + 1)
def fCheckV (v : Int) (L : List (List Int)) : Int × Int := if v < 0 ∨ 100000 < v then (0, 2) else if 1000000 < L.length then (0, 3) else chkV v L 0
theorem chkV_ok {v : Int} : ∀ {L : List (List Int)} {i : Nat}, (chkV v L i).2 = 0 → ∀ c ∈ L, cCheckV c v = 0 ∧ tautV c = false
  | [], _, _, c, hc => by cases hc
  | d :: L, i, h, c, hc => by
    unfold chkV at h
    by_cases h1 : cCheckV d v ≠ 0
    · rw [if_pos h1] at h; exact absurd h h1
    · rw [if_neg h1] at h
      cases ht : tautV d with
      | true => rw [ht, if_pos rfl] at h; have h' : (11 : Int) = 0 := h; omega
      | false =>
        rw [ht, if_neg (by simp)] at h
        rcases List.mem_cons.1 hc with e | e
        · subst e; exact ⟨by omega, ht⟩
        · exact chkV_ok h c e
theorem fCheckV_ok {v : Int} {L : List (List Int)} (h : (fCheckV v L).2 = 0) : (0 ≤ v ∧ v ≤ 100000) ∧ ∀ c ∈ L, cCheckV c v = 0 ∧ tautV c = false := by
  unfold fCheckV at h
  by_cases h1 : v < 0 ∨ 100000 < v
  · rw [if_pos h1] at h; have h' : (2 : Int) = 0 := h; omega
  · rw [if_neg h1] at h
    by_cases h2 : 1000000 < L.length
    · rw [if_pos h2] at h; have h' : (3 : Int) = 0 := h; omega
    · rw [if_neg h2] at h; exact ⟨by omega, chkV_ok h⟩
theorem dropW_cons {α : Type} {L : List α} {k : Nat} {x : α} (h : L[k]? = some x) : L.drop k = x :: L.drop (k + 1) := by
  obtain ⟨hk, e⟩ := List.getElem?_eq_some_iff.1 h
  rw [List.drop_eq_getElem_cons hk, e]

set_option maxHeartbeats 2000000 in
theorem cnfCheck_c (v : Int) (A : Option Addr) (n c : Nat) (L : List (List Int)) (w : World) (h : RowsSl w A n L) :
    Calls Tryz.prog 21 #[.agg #[.int .i64 v, .slice A n c]] w fun e w' => e = .returned (.tuple #[.int .i64 (fCheckV v L).1, .int .i64 (fCheckV v L).2]) ∧ Ext w w' := by
  have hlen := h.1
  have hn := h.len
  by_cases h1 : v < 0 ∨ 100000 < v
  · have HR : Hid (fCheckV v L = (0, 2)) := by unfold Hid fCheckV; rw [if_pos h1]
    clear hlen
    rcases h1 with h1 | h1
    · go_enter Tryz.func21, Tryz.ntmps21
      go_wp2_with fail
      go_ret2
      exact ⟨by rw [HR.out]; rfl, by (repeat (first | with_reducible exact Ext.refl _ | with_reducible apply Ext.alloc | with_reducible apply Ext.drew | with_reducible apply Ext.drewN | (apply Ext.trans'; assumption)))⟩
    · have h0 : ¬ v < 0 := by omega
      go_enter Tryz.func21, Tryz.ntmps21
      go_wp2_with fail
      go_ret2
      exact ⟨by rw [HR.out]; rfl, by (repeat (first | with_reducible exact Ext.refl _ | with_reducible apply Ext.alloc | with_reducible apply Ext.drew | with_reducible apply Ext.drewN | (apply Ext.trans'; assumption)))⟩
  · have h0 : 0 ≤ v := by omega
    have h0' : v ≤ 100000 := by omega
    by_cases h2 : 1000000 < n
    · have HR : Hid (fCheckV v L = (0, 3)) := by unfold Hid fCheckV; rw [if_neg h1, if_pos (by omega)]
      clear hlen h1
      go_enter Tryz.func21, Tryz.ntmps21
      go_wp2_with fail
      go_ret2
      exact ⟨by rw [HR.out]; rfl, by (repeat (first | with_reducible exact Ext.refl _ | with_reducible apply Ext.alloc | with_reducible apply Ext.drew | with_reducible apply Ext.drewN | (apply Ext.trans'; assumption)))⟩
    · have HR : Hid (fCheckV v L = chkV v L 0) := by unfold Hid fCheckV; rw [if_neg h1, if_neg (by omega)]
      clear hlen h1
      go_enter Tryz.func21, Tryz.ntmps21
      go_wp2_with fail
      go_loopw [24] (fun i wr => ∃ k : Nat, k ≤ n ∧ i = .int .i64 k ∧ chkV v L 0 = chkV v (L.drop k) k ∧ Ext (w.alloc (Obj.cells #[.int .i64 v, .slice A n c] 24)) wr) (fun i _ => n - (intOf i).toNat)
      case atStart => exact ⟨0, Nat.zero_le _, rfl, rfl, Ext.refl _⟩
      case round =>
        obtain ⟨k, hk, rfl, hch, hx⟩ := hrel
        have hX := ((Ext.refl w).alloc (Obj.cells #[.int .i64 v, .slice A n c] 24)).trans hx
        have hf0 := hx.cell ((Blk.new w 24 #[.int .i64 v, .slice A n c]).cell 0)
        have hf1 := hx.cell ((Blk.new w 24 #[.int .i64 v, .slice A n c]).cell 1)
        have HCH := Lib.hid hch
        have HX := Lib.hid hX
        have HXB := Lib.hid hx
        clear hch hx hX
        by_cases hlt : k < n
        · obtain ⟨ad, xs, A1, n1, c1, rfl, hy, hcx, hrow⟩ := (h.ext HX.out).at_ hlt
          have HD := Lib.hid (dropW_cons hy.out)
          by_cases hcv : cCheckV xs v = 0
          · have hxl := (cCheckV_ok hcv).2.1
            have hn1 : n1 ≤ 1000 := by have := hrow.1; omega
            cases ht : tautV xs with
            | true =>
              have HRR : Hid (fCheckV v L = ((k : Int), 11)) := by unfold Hid; rw [HR.out, HCH.out, HD.out, chkV, if_neg (by simp [hcv]), ht, if_pos rfl]
              have HCV := Lib.hid hcv
              have HT := Lib.hid ht
              clear hcv ht hxl
              go_wp2_with fail
              refine (clauseCheck_c _ _ _ xs v _ hrow).mono ?_
              rintro e w1 ⟨rfl, hx1⟩
              rw [HCV.out]
              have HX1 := Lib.hid hx1
              clear hx1
              go_wp2_with fail
              refine (taut_c _ _ _ xs _ (hrow.ext HX1.out) (by omega)).mono ?_
              rintro e w2 ⟨rfl, hx2⟩
              rw [HT.out]
              have HX2 := Lib.hid ((HX.out.trans HX1.out).trans hx2)
              clear hx2
              go_wp2_with fail
              go_ret2
              exact ⟨by rw [HRR.out]; rfl, HX2.out⟩
            | false =>
              have HRR : Hid (chkV v L 0 = chkV v (L.drop (k + 1)) (k + 1)) := by unfold Hid; rw [HCH.out, HD.out, chkV, if_neg (by simp [hcv]), ht, if_neg (by simp)]
              have HCV := Lib.hid hcv
              have HT := Lib.hid ht
              clear hcv ht hxl
              go_wp2_with fail
              refine (clauseCheck_c _ _ _ xs v _ hrow).mono ?_
              rintro e w1 ⟨rfl, hx1⟩
              rw [HCV.out]
              have HX1 := Lib.hid hx1
              clear hx1
              go_wp2_with fail
              refine (taut_c _ _ _ xs _ (hrow.ext HX1.out) (by omega)).mono ?_
              rintro e w2 ⟨rfl, hx2⟩
              rw [HT.out]
              have HX2 := Lib.hid ((HXB.out.trans HX1.out).trans hx2)
              clear hx2
              go_wp2_with fail
              go_roundw
              case rel => exact ⟨k + 1, by omega, by go_num, HRR.out, HX2.out⟩
              case measure => simp [intOf]; omega
          · have HRR : Hid (fCheckV v L = ((k : Int), cCheckV xs v)) := by unfold Hid; rw [HR.out, HCH.out, HD.out, chkV, if_pos hcv]
            have hb : (cCheckV xs v != 0) = true := by simpa using hcv
            clear hcv
            go_wp2_with fail
            refine (clauseCheck_c _ _ _ xs v _ hrow).mono ?_
            rintro e w1 ⟨rfl, hx1⟩
            have HX1 := Lib.hid (HX.out.trans hx1)
            clear hx1
            go_wp2_with fail
            go_ret2
            exact ⟨by rw [HRR.out]; rfl, HX1.out⟩
        · have hkn : k = n := by omega
          have HRR : Hid (fCheckV v L = ((n : Int), 0)) := by unfold Hid; rw [HR.out, HCH.out, List.drop_of_length_le (by have := h.1; omega), hkn]; rfl
          clear hkn
          go_wp2_with fail
          go_ret2
          exact ⟨by rw [HRR.out]; rfl, HX.out⟩


end Go.Proofs.YtdgflniahoidmaaGreat
