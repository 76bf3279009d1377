/- Plain laws of layer 3: the literals of truths are a full assignment that tells them; a clause's value in it. -/
import Derived.Test.YtdhohoabcokdjaaAssign3
import Derived.Test.YtdhohoabcokdjaaAssign6
import Derived.Test.YtdhohoabcokdjaaAssign7
import Derived.Test.YtdhohoabcokdjaaHolds
set_option maxRecDepth 100000
namespace Go.Proofs.Ytdhohoabcokdjaa

theorem mem_litsT {m : List Bool} {n : Nat} {x : Int} : x ∈ litsT m n ↔ ∃ i : Nat, i < n ∧ makeV ((i : Int) + 1) (m.getD i false) = x := by
  simp [litsT]
theorem makeV_in {i : Nat} {t : Bool} (h : i < 100000) : makeV ((i : Int) + 1) t = if t then (i : Int) + 1 else -((i : Int) + 1) := by
  rw [makeV, if_neg (by omega)]
theorem varV_makeV {i : Nat} {t : Bool} (h : i < 100000) : varV (makeV ((i : Int) + 1) t) = (i : Int) + 1 := by
  rw [makeV_in h]; unfold varV; cases t <;> simp <;> (repeat (first | omega | split))
theorem hasV_litsT {m : List Bool} {n i : Nat} (hn : n ≤ 100000) (hi : i < n) (t : Bool) :
    hasV (litsT m n) (if t then (i : Int) + 1 else -((i : Int) + 1)) = (m.getD i false == t) := by
  rw [Bool.eq_iff_iff, hasV_mem, mem_litsT, beq_iff_eq]
  constructor
  · rintro ⟨j, hj, e⟩
    rw [makeV_in (by omega)] at e
    generalize hg : m.getD j false = y at e
    cases y <;> cases t <;> simp at e
    · obtain rfl : j = i := by omega
      exact hg
    · omega
    · omega
    · obtain rfl : j = i := by omega
      exact hg
  · intro e
    exact ⟨i, hi, by rw [makeV_in (by omega), e]⟩
theorem valueV_litsT {m : List Bool} {n i : Nat} (hn : n ≤ 100000) (hi : i < n) (t : Bool) {x : Int} (hx : x = if t then (i : Int) + 1 else -((i : Int) + 1)) :
    valueV (litsT m n) x = if m.getD i false == t then 1 else -1 := by
  have hv : varV x ≠ 0 := by subst hx; cases t <;> simp [varV] <;> (repeat (first | omega | split))
  have h1 := hasV_litsT (m := m) hn hi t
  have h2 := hasV_litsT (m := m) hn hi (!t)
  rw [← hx] at h1
  have hx2 : (if (!t) = true then (i : Int) + 1 else -((i : Int) + 1)) = -x := by subst hx; cases t <;> simp
  rw [hx2] at h2
  rw [valueV, if_neg hv, h1, h2]
  cases m.getD i false <;> cases t <;> simp
theorem fullV_lits {m : List Bool} {n : Nat} (hm : m.length = n) (hn : n ≤ 100000) : fullV (litsV m) n = true := by
  have hl : litsV m = litsT m n := by rw [litsV, if_neg (by omega), hm]
  rw [hl, fullV, litsT_len]
  have hb : badL (litsT m n) n = false := by
    rw [badL, List.any_eq_false]
    intro x hx
    obtain ⟨i, hi, rfl⟩ := mem_litsT.1 hx
    rw [makeV_in (by omega)]
    simp only [decide_eq_true_eq, ne_eq, Decidable.not_not]
    unfold checkV
    cases m.getD i false <;> simp <;> (repeat (first | omega | split))
  have hnd : ((litsT m n).map varV).Nodup := by
    have e : (litsT m n).map varV = (List.range n).map fun i : Nat => (i : Int) + 1 := by
      rw [litsT, List.map_map]
      apply List.map_congr_left
      intro i hi
      exact varV_makeV (by have := List.mem_range.1 hi; omega)
    rw [e]
    exact List.Pairwise.map _ (fun a b h => by omega) List.nodup_range
  rw [assignV_ok (by omega) hb hnd]
  simp
theorem modelV_lits {m : List Bool} {n : Nat} (hm : m.length = n) (hn : n ≤ 100000) : modelV (litsV m) n = m := by
  have hl : litsV m = litsT m n := by rw [litsV, if_neg (by omega), hm]
  rw [hl, modelV, if_neg (by omega), Int.toNat_natCast]
  apply List.ext_getElem?
  intro j
  by_cases hj : j < n
  · have hv := valueV_litsT (m := m) hn hj true (x := (j : Int) + 1) (by simp)
    rw [modelT, List.getElem?_map, List.getElem?_range hj]
    have hg : m[j]? = some (m.getD j false) := by rw [List.getD_eq_getElem?_getD, List.getElem?_eq_getElem (by omega)]; rfl
    rw [hg]
    simp only [Option.map_some]
    rw [hv]
    cases m.getD j false <;> rfl
  · rw [List.getElem?_eq_none (by rw [modelT_len]; omega), List.getElem?_eq_none (by omega)]
theorem value_holds {m : List Bool} {n : Nat} (hm : m.length = n) (hn : n ≤ 100000) {x : Int} (hx : checkV x n = 0) : varV x ≠ 0 ∧ valueV (litsV m) x = if litHolds m x then 1 else -1 := by
  have hl : litsV m = litsT m n := by rw [litsV, if_neg (by omega), hm]
  have hr : x ≠ 0 ∧ -(n : Int) ≤ x ∧ x ≤ n := by revert hx; unfold checkV; (repeat (first | omega | split))
  have hv := (checkV_ok hx).2.2.2.1
  refine ⟨hv, ?_⟩
  rw [hl]
  rcases (show 0 < x ∨ x < 0 by omega) with h | h
  · obtain ⟨i, hi⟩ : ∃ i : Nat, x = (i : Int) + 1 := ⟨(x - 1).toNat, by omega⟩
    have hvx : varV x = (i : Int) + 1 := by subst hi; unfold varV; (repeat (first | omega | split))
    have hsx : sideV x = true := by unfold sideV; simp; omega
    rw [valueV_litsT hn (show i < n by omega) true (by simp [hi]), litHolds, truthV, hvx, hsx, hm]
    have e1 : decide (((i : Int) + 1) ≠ 0) = true := by rw [decide_eq_true_eq]; omega
    have e2 : decide (((i : Int) + 1) ≤ (n : Int)) = true := by rw [decide_eq_true_eq]; omega
    rw [e1, e2, show ((i : Int) + 1 - 1).toNat = i by omega, Bool.true_and, Bool.true_and]
  · obtain ⟨i, hi⟩ : ∃ i : Nat, x = -((i : Int) + 1) := ⟨(-x - 1).toNat, by omega⟩
    have hvx : varV x = (i : Int) + 1 := by subst hi; unfold varV; (repeat (first | omega | split))
    have hsx : sideV x = false := by unfold sideV; simp; omega
    rw [valueV_litsT hn (show i < n by omega) false (by simp [hi]), litHolds, truthV, hvx, hsx, hm]
    have e1 : decide (((i : Int) + 1) ≠ 0) = true := by rw [decide_eq_true_eq]; omega
    have e2 : decide (((i : Int) + 1) ≤ (n : Int)) = true := by rw [decide_eq_true_eq]; omega
    rw [e1, e2, show ((i : Int) + 1 - 1).toNat = i by omega, Bool.true_and, Bool.true_and]
theorem clause_holds {m : List Bool} {n : Nat} (hm : m.length = n) (hn : n ≤ 100000) {c : List Int} (hc : badL c n = false) : clauseV (litsV m) c = if holdsV c m then 1 else -1 := by
  have hx : ∀ x ∈ c, varV x ≠ 0 ∧ valueV (litsV m) x = if litHolds m x then 1 else -1 := by
    intro x hx
    rw [badL, List.any_eq_false] at hc
    exact value_holds hm hn (by simpa using hc x hx)
  have h0 : cnV (litsV m) c 0 = 0 := by
    unfold cnV
    rw [List.countP_eq_zero.2]
    · rfl
    · intro x hxc
      rw [(hx x hxc).2]
      cases litHolds m x <;> simp
  have h1 : 0 < cnV (litsV m) c 1 ↔ holdsV c m = true := by
    unfold cnV holdsV
    rw [List.any_eq_true, Int.natCast_pos, List.countP_pos_iff]
    constructor
    · rintro ⟨x, hxc, e⟩
      refine ⟨x, hxc, ?_⟩
      rw [(hx x hxc).2] at e
      cases hh : litHolds m x
      · rw [hh] at e; simp at e
      · rfl
    · rintro ⟨x, hxc, e⟩
      refine ⟨x, hxc, ?_⟩
      rw [(hx x hxc).2, e]
      simp [(hx x hxc).1]
  unfold clauseV
  rw [h0]
  by_cases hh : holdsV c m = true
  · rw [if_pos (h1.2 hh), if_pos hh]
  · rw [if_neg (fun e => hh (h1.1 e)), if_neg hh]; rfl
end Go.Proofs.Ytdhohoabcokdjaa
