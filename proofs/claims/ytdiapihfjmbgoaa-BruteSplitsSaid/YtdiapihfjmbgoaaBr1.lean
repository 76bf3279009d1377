/- Layer 22 (brute), in plain Lean: sets of variables as numbers; which sets are models; the order of truths. -/
import Derived.Test.YtdiapihfjmbgoaaCnf3
set_option maxRecDepth 100000
namespace Go.Proofs.Ytdiapihfjmbgoaa

/-- The truths of a set. -/
def bitsV (m n : Nat) : List Bool := (List.range n).map fun v => m.testBit v
theorem bitsV_len (m n : Nat) : (bitsV m n).length = n := by simp [bitsV]
theorem bitsV_get (m : Nat) {n v : Nat} (h : v < n) : (bitsV m n)[v]? = some (m.testBit v) := by simp [bitsV, h]
theorem bitsV_inj {m k n : Nat} (hm : m < 2 ^ n) (hk : k < 2 ^ n) (h : bitsV m n = bitsV k n) : m = k := by
  apply Nat.eq_of_testBit_eq
  intro i
  by_cases hi : i < n
  · have h1 := bitsV_get m hi
    rw [h, bitsV_get k hi] at h1
    exact (Option.some.inj h1).symm
  · rw [Nat.testBit_lt_two_pow (Nat.lt_of_lt_of_le hm (Nat.pow_le_pow_right (by decide) (by omega))), Nat.testBit_lt_two_pow (Nat.lt_of_lt_of_le hk (Nat.pow_le_pow_right (by decide) (by omega)))]
/-- The set that makes a clause hold when its variables are true; when they are false. -/
def yesN (c : List Int) : Nat := c.foldl (fun a l => if 0 < l then a ||| 2 ^ (l - 1).toNat else a) 0
def noN (c : List Int) : Nat := c.foldl (fun a l => if 0 < l then a else a ||| 2 ^ (-l - 1).toNat) 0
theorem yesN_snoc (c : List Int) (l : Int) : yesN (c ++ [l]) = if 0 < l then yesN c ||| 2 ^ (l - 1).toNat else yesN c := by unfold yesN; rw [List.foldl_append]; rfl
theorem noN_snoc (c : List Int) (l : Int) : noN (c ++ [l]) = if 0 < l then noN c else noN c ||| 2 ^ (-l - 1).toNat := by unfold noN; rw [List.foldl_append]; rfl
theorem yesN_bit (c : List Int) (i : Nat) : (yesN c).testBit i = c.any fun l => decide (0 < l) && decide ((l - 1).toNat = i) := by
  refine foldl_snoc_ind (P := fun c => (yesN c).testBit i = c.any fun l => decide (0 < l) && decide ((l - 1).toNat = i)) ?_ ?_ c
  · simp [yesN]
  · intro xs x ih
    rw [yesN_snoc, List.any_append]
    by_cases h : 0 < x
    · rw [if_pos h, Nat.testBit_or, ih, Nat.testBit_two_pow]
      simp [h]
    · rw [if_neg h, ih]
      simp [h]
theorem noN_bit (c : List Int) (i : Nat) : (noN c).testBit i = c.any fun l => decide (¬ 0 < l) && decide ((-l - 1).toNat = i) := by
  refine foldl_snoc_ind (P := fun c => (noN c).testBit i = c.any fun l => decide (¬ 0 < l) && decide ((-l - 1).toNat = i)) ?_ ?_ c
  · simp [noN]
  · intro xs x ih
    rw [noN_snoc, List.any_append]
    by_cases h : 0 < x
    · rw [if_pos h, ih]
      simp [show ¬ x ≤ 0 by omega]
    · rw [if_neg h, Nat.testBit_or, ih, Nat.testBit_two_pow]
      simp [show x ≤ 0 by omega]
theorem and_zero (a b : Nat) : a &&& b = 0 ↔ ∀ i, a.testBit i = true → b.testBit i = false := by
  constructor
  · intro h i ha
    have := congrArg (fun x => x.testBit i) h
    simp only [Nat.testBit_and, Nat.zero_testBit, ha, Bool.true_and] at this
    exact this
  · intro h
    apply Nat.eq_of_testBit_eq
    intro i
    rw [Nat.testBit_and, Nat.zero_testBit]
    cases ha : a.testBit i with
    | false => rfl
    | true => rw [h i ha]; rfl
/-- Fails the clause with these sets? -/
def failsN (m y n : Nat) : Bool := (m &&& y == 0) && ((4294967295 - m) &&& n == 0)
theorem lit_bits {m n : Nat} (hn : n ≤ 16) {l : Int} (hl : l ≠ 0 ∧ -(n : Int) ≤ l ∧ l ≤ n) : litHolds (bitsV m n) l = if 0 < l then m.testBit (l - 1).toNat else !m.testBit (-l - 1).toNat := by
  have hv : varV l = if 0 < l then l else -l := by unfold varV; (repeat (first | omega | split))
  unfold litHolds truthV
  rw [hv, bitsV_len]
  by_cases h : 0 < l
  · rw [if_pos h, if_pos h]
    have hs : sideV l = true := by unfold sideV; simp; omega
    have hg : (bitsV m n).getD (l - 1).toNat false = m.testBit (l - 1).toNat := by rw [List.getD_eq_getElem?_getD, bitsV_get m (by omega)]; rfl
    rw [hs, hg, decide_eq_true (show l ≠ 0 by omega), decide_eq_true (show l ≤ (n : Int) by omega)]
    cases m.testBit (l - 1).toNat <;> rfl
  · rw [if_neg h, if_neg h]
    have hs : sideV l = false := by unfold sideV; simp; omega
    have hg : (bitsV m n).getD (-l - 1).toNat false = m.testBit (-l - 1).toNat := by rw [List.getD_eq_getElem?_getD, bitsV_get m (by omega)]; rfl
    rw [hs, hg, decide_eq_true (show -l ≠ 0 by omega), decide_eq_true (show -l ≤ (n : Int) by omega)]
    cases m.testBit (-l - 1).toNat <;> rfl
theorem not_bit {m i : Nat} (hm : m < 2 ^ 16) (hi : i < 16) : (4294967295 - m).testBit i = !m.testBit i := by
  have e : 4294967295 - m = 2 ^ 32 - (m + 1) := by omega
  rw [e, Nat.testBit_two_pow_sub_succ (by omega)]
  simp [show i < 32 by omega]
theorem fails_bits {m n : Nat} (hn : n ≤ 16) (hm : m < 2 ^ n) {c : List Int} (hc : ∀ l ∈ c, l ≠ 0 ∧ -(n : Int) ≤ l ∧ l ≤ n) : failsN m (yesN c) (noN c) = !holdsV c (bitsV m n) := by
  have hm16 : m < 2 ^ 16 := Nat.lt_of_lt_of_le hm (Nat.pow_le_pow_right (by decide) hn)
  have e1 : (holdsV c (bitsV m n) = true) ↔ ∃ l ∈ c, (if 0 < l then m.testBit (l - 1).toNat else !m.testBit (-l - 1).toNat) = true := by
    rw [holdsV, List.any_eq_true]
    constructor
    · rintro ⟨l, hl, h⟩
      exact ⟨l, hl, by rw [← lit_bits hn (hc l hl)]; exact h⟩
    · rintro ⟨l, hl, h⟩
      exact ⟨l, hl, by rw [lit_bits hn (hc l hl)]; exact h⟩
  have e2 : failsN m (yesN c) (noN c) = true ↔ (∀ i, m.testBit i = true → (yesN c).testBit i = false) ∧ ∀ i, (4294967295 - m).testBit i = true → (noN c).testBit i = false := by
    unfold failsN
    rw [Bool.and_eq_true, beq_iff_eq, beq_iff_eq, and_zero, and_zero]
  cases hh : holdsV c (bitsV m n) with
  | true =>
    obtain ⟨l, hl, h⟩ := e1.1 hh
    cases hf : failsN m (yesN c) (noN c) with
    | false => rfl
    | true =>
      obtain ⟨h1, h2⟩ := e2.1 hf
      have hb := hc l hl
      by_cases hp : 0 < l
      · rw [if_pos hp] at h
        have := h1 _ h
        rw [yesN_bit, List.any_eq_false] at this
        have := this l hl
        simp [hp] at this
      · rw [if_neg hp] at h
        have := h2 (-l - 1).toNat (by rw [not_bit hm16 (by omega)]; exact h)
        rw [noN_bit, List.any_eq_false] at this
        have := this l hl
        simp [hp] at this
  | false =>
    have hno : ∀ l ∈ c, (if 0 < l then m.testBit (l - 1).toNat else !m.testBit (-l - 1).toNat) = false := by
      intro l hl
      cases h : (if 0 < l then m.testBit (l - 1).toNat else !m.testBit (-l - 1).toNat) with
      | false => rfl
      | true => rw [e1.2 ⟨l, hl, h⟩] at hh; cases hh
    have : failsN m (yesN c) (noN c) = true := by
      refine e2.2 ⟨fun i hi => ?_, fun i hi => ?_⟩
      · rw [yesN_bit, List.any_eq_false]
        intro l hl
        simp only [Bool.and_eq_true, decide_eq_true_eq, not_and]
        intro hp he
        have := hno l hl
        rw [if_pos hp, he, hi] at this
        cases this
      · rw [noN_bit, List.any_eq_false]
        intro l hl
        simp only [Bool.and_eq_true, decide_eq_true_eq, not_and]
        intro hp he
        have := hno l hl
        have hb := hc l hl
        rw [if_neg hp, he] at this
        rw [not_bit hm16 (by omega)] at hi
        rw [hi] at this
        cases this
    rw [this]; rfl
/-- The next truths. -/
def nextB : List Bool → Option (List Bool)
  | [] => none
  | false :: l => some (true :: l)
  | true :: l => (nextB l).map (false :: ·)
theorem bitsV_succ (m n : Nat) : bitsV m (n + 1) = m.testBit 0 :: bitsV (m / 2) n := by
  unfold bitsV
  rw [List.range_succ_eq_map, List.map_cons, List.map_map]
  congr 1
  apply List.map_congr_left
  intro i _
  simp [Nat.testBit_succ]
theorem nextB_bits : ∀ (n m : Nat), m < 2 ^ n → nextB (bitsV m n) = if m + 1 < 2 ^ n then some (bitsV (m + 1) n) else none
  | 0, m, h => by
    have : ¬ m + 1 < 2 ^ 0 := by simp
    rw [if_neg this]; rfl
  | n + 1, m, h => by
    have hp : 2 ^ (n + 1) = 2 * 2 ^ n := by rw [Nat.pow_succ]; omega
    rw [bitsV_succ, bitsV_succ]
    have ht : m.testBit 0 = decide (m % 2 = 1) := by rw [Nat.testBit_zero]
    have ht' : (m + 1).testBit 0 = decide ((m + 1) % 2 = 1) := by rw [Nat.testBit_zero]
    rw [ht, ht']
    by_cases hm : m % 2 = 1
    · have e1 : ¬ (m + 1) % 2 = 1 := by omega
      have e2 : (m + 1) / 2 = m / 2 + 1 := by omega
      rw [decide_eq_true hm, decide_eq_false e1, e2]
      show (nextB (bitsV (m / 2) n)).map (false :: ·) = _
      rw [nextB_bits n (m / 2) (by omega)]
      by_cases hl : m / 2 + 1 < 2 ^ n
      · rw [if_pos hl, if_pos (by omega)]; rfl
      · rw [if_neg hl, if_neg (by omega)]; rfl
    · have e1 : (m + 1) % 2 = 1 := by omega
      have e2 : (m + 1) / 2 = m / 2 := by omega
      rw [decide_eq_false hm, decide_eq_true e1, e2, if_pos (by omega)]
      rfl

/-- Count's error. -/
def bCheckV (v : Int) (L : List (List Int)) : Int := if (fCheckV v L).2 ≠ 0 then (fCheckV v L).2 else if 16 < v then 3 else 0
/-- The sets that are models, in order. -/
def setsV (v : Int) (L : List (List Int)) : List Nat := if bCheckV v L = 0 then (List.range (2 ^ v.toNat)).filter fun m => decide (firstV L (bitsV m v.toNat) < 0) else []
def modelsV (v : Int) (L : List (List Int)) : List (List Bool) := (setsV v L).map fun m => bitsV m v.toNat
theorem bCheck_ok {v : Int} {L : List (List Int)} (h : bCheckV v L = 0) : 0 ≤ v ∧ v ≤ 16 ∧ (fCheckV v L).2 = 0 := by
  unfold bCheckV at h
  by_cases h1 : (fCheckV v L).2 ≠ 0
  · rw [if_pos h1] at h; exact absurd h h1
  · rw [if_neg h1] at h
    have h2 : (fCheckV v L).2 = 0 := by omega
    have h3 := (fCheckV_ok h2).1
    by_cases h4 : 16 < v
    · rw [if_pos h4] at h; omega
    · exact ⟨h3.1, by omega, h2⟩
end Go.Proofs.Ytdiapihfjmbgoaa
