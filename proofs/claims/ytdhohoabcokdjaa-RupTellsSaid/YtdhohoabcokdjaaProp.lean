/- Layer 7: what follows by unit clauses, in plain Lean. -/
import Derived.Test.YtdhohoabcokdjaaUnits2
import Derived.Test.YtdhohoabcokdjaaAssign9
set_option maxRecDepth 100000
namespace Go.Proofs.Ytdhohoabcokdjaa

/-- All that follows, in at most k steps: the literals, the clauses they come of, the clause that fails or -1. -/
def propV (L : List (List Int)) : Nat → List Int → List Int → List Int × List Int × Int
  | 0, l, b => (l, b, -1)
  | k + 1, l, b => if 0 ≤ failsV l L then (l, b, failsV l L) else if nextU l L < 0 then (l, b, -1) else propV L k (l ++ [nextS l L]) (b ++ [nextU l L])

/-- How many literals are open in all clauses. -/
def openN (L : List (List Int)) (l : List Int) : Int := (L.map fun c => cnV l c 0).sum
theorem openN_nil (l : List Int) : openN [] l = 0 := rfl
theorem openN_cons (L : List (List Int)) (c l : List Int) : openN (c :: L) l = cnV l c 0 + openN L l := rfl
theorem openN_pos (L : List (List Int)) (l : List Int) : 0 ≤ openN L l := by
  induction L with
  | nil => exact Int.le_refl _
  | cons c L ih => rw [openN_cons]; have := (cnV_bd l c 0).1; omega
theorem valueV_keep {l : List Int} {u x : Int} (hx : varV x ≠ 0) (h : valueV (l ++ [u]) x = 0) : valueV l x = 0 := by
  obtain ⟨h1, h2⟩ := valueV_zero hx h
  rw [hasV_snoc, Bool.or_eq_false_iff] at h1 h2
  rw [valueV, if_neg hx, h1.1, h2.1]; rfl
theorem cnV_down (l c : List Int) (u : Int) : cnV (l ++ [u]) c 0 ≤ cnV l c 0 := by
  unfold cnV
  have := List.countP_mono_left (p := fun x => decide (varV x ≠ 0) && decide (valueV (l ++ [u]) x = 0)) (q := fun x => decide (varV x ≠ 0) && decide (valueV l x = 0)) (l := c) (by
    intro x _ h
    simp only [Bool.and_eq_true, decide_eq_true_eq] at h ⊢
    exact ⟨h.1, valueV_keep h.1 h.2⟩)
  omega
theorem openN_down (L : List (List Int)) (l : List Int) (u : Int) : openN L (l ++ [u]) ≤ openN L l := by
  induction L with
  | nil => exact Int.le_refl _
  | cons c L ih => rw [openN_cons, openN_cons]; have := cnV_down l c u; omega
/-- In the clause that is unit no literal is open behind the step. -/
theorem cnV_step {l c : List Int} (h : unitB l c = true) : cnV (l ++ [unitU l c]) c 0 = 0 := by
  have h0 : cnV l c 0 = 1 := by
    unfold unitB at h
    simp only [Bool.and_eq_true, decide_eq_true_eq] at h
    exact h.2
  have hu : unitU l c = openV l c := by rw [unitU, h]; rfl
  rw [hu]
  obtain ⟨hv, _, _, hall⟩ := unit_facts h0
  unfold cnV
  rw [List.countP_eq_zero.2]
  · rfl
  · intro x hx hc
    simp only [Bool.and_eq_true, decide_eq_true_eq] at hc
    have e := hall x hx hc.1 (valueV_keep hc.1 hc.2)
    obtain ⟨h1, _⟩ := valueV_zero hc.1 hc.2
    rw [hasV_snoc, e] at h1
    simp at h1
theorem openN_mem {L : List (List Int)} {l c : List Int} (u : Int) (h : c ∈ L) (hlt : cnV (l ++ [u]) c 0 < cnV l c 0) : openN L (l ++ [u]) < openN L l := by
  induction L with
  | nil => cases h
  | cons d L ih =>
    rw [openN_cons, openN_cons]
    rcases List.mem_cons.1 h with e | e
    · subst e
      have := openN_down L l u
      omega
    · have := cnV_down l d u
      have := ih e
      omega
theorem next_mem {l : List Int} {L : List (List Int)} (h : ¬ nextU l L < 0) : ∃ c ∈ L, unitB l c = true ∧ nextS l L = unitU l c := by
  cases e : L.findIdx? (unitB l) with
  | none => exact absurd (idxP_neg.2 e) h
  | some k =>
    have e' := e
    rw [List.findIdx?_eq_some_iff_getElem] at e
    obtain ⟨hk, hp, _⟩ := e
    refine ⟨L[k], List.getElem_mem hk, hp, ?_⟩
    rw [nextS, e']
    simp [hk]
theorem open_step {l : List Int} {L : List (List Int)} (h : ¬ nextU l L < 0) : openN L (l ++ [nextS l L]) < openN L l := by
  obtain ⟨c, hc, hu, hs⟩ := next_mem h
  rw [hs]
  refine openN_mem _ hc ?_
  rw [cnV_step hu]
  unfold unitB at hu
  simp only [Bool.and_eq_true, decide_eq_true_eq] at hu
  omega
/-- More fuel than open literals changes nothing. -/
theorem propV_fuel (L : List (List Int)) : ∀ (k m : Nat) (l b : List Int), openN L l < k → openN L l < m → propV L k l b = propV L m l b
  | 0, m, l, b, h, _ => by have := openN_pos L l; omega
  | k + 1, 0, l, b, _, h => by have := openN_pos L l; omega
  | k + 1, m + 1, l, b, h1, h2 => by
    unfold propV
    by_cases hf : 0 ≤ failsV l L
    · rw [if_pos hf, if_pos hf]
    · rw [if_neg hf, if_neg hf]
      by_cases hn : nextU l L < 0
      · rw [if_pos hn, if_pos hn]
      · rw [if_neg hn, if_neg hn]
        have := open_step hn
        exact propV_fuel L k m _ _ (by omega) (by omega)
/-- How many numbers the clauses have. -/
def mostN (L : List (List Int)) : Nat := (L.map List.length).sum
theorem openN_most (L : List (List Int)) (l : List Int) : openN L l ≤ (mostN L : Int) := by
  induction L with
  | nil => exact Int.le_refl _
  | cons c L ih =>
    have e : mostN (c :: L) = c.length + mostN L := rfl
    rw [openN_cons, e]
    have := (cnV_bd l c 0).2
    omega
end Go.Proofs.Ytdhohoabcokdjaa
