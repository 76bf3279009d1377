/- The plain mathematics of layer 18: Luby's numbers, Knuth's pair. No program in sight. -/
namespace Go.Proofs.Ytnbodnihfkfmnaa

/-! ### the lowest bit -/
def lowN (n u : Nat) : Nat := u &&& (2 ^ n - u)

theorem and_compl (n : Nat) : ∀ y, y < 2 ^ n → y &&& (2 ^ n - 1 - y) = 0 := by
  induction n with
  | zero => intro y hy; have : y = 0 := by simpa using hy
            subst this; rfl
  | succ n ih =>
    intro y hy
    have hp : 2 ^ (n + 1) = 2 * 2 ^ n := by rw [Nat.pow_succ]; omega
    have h1 := ih (y / 2) (by omega)
    apply Nat.eq_of_testBit_eq
    intro i
    rw [Nat.testBit_and, Nat.zero_testBit]
    cases i with
    | zero =>
      simp only [Nat.testBit_zero]
      rcases Nat.mod_two_eq_zero_or_one y with h | h
      · simp [h]
      · have : (2 ^ (n + 1) - 1 - y) % 2 = 0 := by omega
        simp [this]
    | succ i =>
      rw [Nat.testBit_add_one, Nat.testBit_add_one]
      have e : (2 ^ (n + 1) - 1 - y) / 2 = 2 ^ n - 1 - y / 2 := by omega
      rw [e, ← Nat.testBit_and, h1, Nat.zero_testBit]

theorem lowN_even (n y : Nat) (h : y ≤ 2 ^ n) : lowN (n + 1) (2 * y) = 2 * lowN n y := by
  unfold lowN
  have hp : 2 ^ (n + 1) = 2 * 2 ^ n := by rw [Nat.pow_succ]; omega
  apply Nat.eq_of_testBit_eq
  intro i
  cases i with
  | zero => simp [Nat.testBit_zero]
  | succ i =>
    rw [Nat.testBit_and, Nat.testBit_add_one, Nat.testBit_add_one, Nat.testBit_add_one]
    have e1 : 2 * y / 2 = y := by omega
    have e2 : (2 ^ (n + 1) - 2 * y) / 2 = 2 ^ n - y := by omega
    have e3 : 2 * (y &&& 2 ^ n - y) / 2 = (y &&& 2 ^ n - y) := by omega
    rw [e1, e2, e3, Nat.testBit_and]

theorem lowN_odd (n y : Nat) (h : y < 2 ^ n) : lowN (n + 1) (2 * y + 1) = 1 := by
  unfold lowN
  have hp : 2 ^ (n + 1) = 2 * 2 ^ n := by rw [Nat.pow_succ]; omega
  apply Nat.eq_of_testBit_eq
  intro i
  cases i with
  | zero =>
    have : (2 ^ (n + 1) - (2 * y + 1)) % 2 = 1 := by omega
    simp [Nat.testBit_zero, this]
  | succ i =>
    rw [Nat.testBit_and, Nat.testBit_add_one, Nat.testBit_add_one, Nat.testBit_add_one]
    have e1 : (2 * y + 1) / 2 = y := by omega
    have e2 : (2 ^ (n + 1) - (2 * y + 1)) / 2 = 2 ^ n - 1 - y := by omega
    rw [e1, e2, ← Nat.testBit_and, and_compl n y h]

theorem lowN_pow : ∀ (k n : Nat), k < n → lowN n (2 ^ k) = 2 ^ k
  | 0, n + 1, _ => by
    have := lowN_odd n 0 (Nat.two_pow_pos n)
    simpa using this
  | k + 1, n + 1, h => by
    have hk : 2 ^ k ≤ 2 ^ n := Nat.pow_le_pow_right (by omega) (by omega)
    rw [show 2 ^ (k + 1) = 2 * 2 ^ k by rw [Nat.pow_succ]; omega, lowN_even n _ hk, lowN_pow k n (by omega)]

theorem lowN_shift : ∀ (k n u : Nat), k < n → 0 < u → u < 2 ^ k → lowN n (u + 2 ^ k) = lowN n u
  | 0, _, u, _, h0, h1 => by simp at h1; omega
  | k + 1, n + 1, u, h, h0, h1 => by
    have e : 2 ^ (k + 1) = 2 * 2 ^ k := by rw [Nat.pow_succ]; omega
    have hk : 2 ^ (k + 1) ≤ 2 ^ n := Nat.pow_le_pow_right (by omega) (by omega)
    rcases Nat.mod_two_eq_zero_or_one u with hm | hm
    · have hu : u = 2 * (u / 2) := by omega
      have e1 : u + 2 ^ (k + 1) = 2 * (u / 2 + 2 ^ k) := by omega
      rw [e1, lowN_even n _ (by omega), lowN_shift k n (u / 2) (by omega) (by omega) (by omega)]
      conv => rhs; rw [hu, lowN_even n _ (by omega)]
    · have hu : u = 2 * (u / 2) + 1 := by omega
      have e1 : u + 2 ^ (k + 1) = 2 * (u / 2 + 2 ^ k) + 1 := by omega
      rw [e1, lowN_odd n _ (by omega)]
      conv => rhs; rw [hu, lowN_odd n _ (by omega)]

/-! ### Knuth's pair -/
def kstep (s : Nat × Nat) : Nat × Nat := if lowN 64 s.1 = s.2 then (s.1 + 1, 1) else (s.1, 2 * s.2)
def kst : Nat → Nat × Nat
  | 0 => (1, 1)
  | n + 1 => kstep (kst n)

/-- The first 2^(k+1) - 1 numbers: u is at most 2^k; it is 2^k, and v too, just at the last. -/
theorem kst_block : ∀ k, k < 63 → (∀ n, n < 2 ^ (k + 1) - 1 → 0 < (kst n).1 ∧ (kst n).1 ≤ 2 ^ k ∧ 0 < (kst n).2 ∧ ((kst n).1 = 2 ^ k → n + 1 < 2 ^ (k + 1) - 1 → (kst n).2 < 2 ^ k)) ∧ kst (2 ^ (k + 1) - 2) = (2 ^ k, 2 ^ k)
  | 0, _ => by
    refine ⟨fun n hn => ?_, rfl⟩
    obtain rfl : n = 0 := by simp at hn; omega
    simp [kst]
  | k + 1, hk => by
    obtain ⟨hb, hl⟩ := kst_block k (by omega)
    have e1 : 2 ^ (k + 1) = 2 * 2 ^ k := by rw [Nat.pow_succ]; omega
    have e2 : 2 ^ (k + 1 + 1) = 4 * 2 ^ k := by rw [Nat.pow_succ, e1]; omega
    have hp := Nat.two_pow_pos k
    have hs0 : kst (2 ^ (k + 1) - 1) = (2 ^ k + 1, 1) := by
      rw [show 2 ^ (k + 1) - 1 = (2 ^ (k + 1) - 2) + 1 by omega]
      show kstep (kst _) = _
      rw [hl, kstep, if_pos (lowN_pow k 64 (by omega))]
    -- the second block is the first one, its u shifted
    have hsh : ∀ m, m < 2 ^ (k + 1) - 1 → kst (2 ^ (k + 1) - 1 + m) = ((kst m).1 + 2 ^ k, (kst m).2) := by
      intro m
      induction m with
      | zero => intro _; rw [Nat.add_zero, hs0]; simp [kst, Nat.add_comm]
      | succ m ih =>
        intro hm
        obtain ⟨b1, b2, b3, b4⟩ := hb m (by omega)
        rw [← Nat.add_assoc]
        show kstep (kst (2 ^ (k + 1) - 1 + m)) = _
        rw [ih (by omega)]
        show kstep _ = ((kstep (kst m)).1 + 2 ^ k, (kstep (kst m)).2)
        by_cases hu : (kst m).1 = 2 ^ k
        · have hv := b4 hu (by omega)
          have hl1 : lowN 64 (kst m).1 = 2 ^ k := by rw [hu]; exact lowN_pow k 64 (by omega)
          have hl2 : lowN 64 ((kst m).1 + 2 ^ k) = 2 ^ (k + 1) := by rw [hu, show 2 ^ k + 2 ^ k = 2 ^ (k + 1) by omega]; exact lowN_pow (k + 1) 64 (by omega)
          simp only [kstep, hl1, hl2]
          rw [if_neg (by omega), if_neg (by omega)]
        · have hl1 := lowN_shift k 64 (kst m).1 (by omega) b1 (by omega)
          simp only [kstep, hl1]
          split <;> simp <;> omega
    have hlast : kst (2 ^ (k + 1 + 1) - 2) = (2 ^ (k + 1), 2 ^ (k + 1)) := by
      rw [show 2 ^ (k + 1 + 1) - 2 = (2 ^ (k + 1) - 1 + (2 ^ (k + 1) - 2)) + 1 by omega]
      show kstep (kst _) = _
      rw [hsh _ (by omega), hl]
      have hl2 : lowN 64 (2 ^ k + 2 ^ k) = 2 ^ (k + 1) := by rw [show 2 ^ k + 2 ^ k = 2 ^ (k + 1) by omega]; exact lowN_pow (k + 1) 64 (by omega)
      simp only [kstep, hl2]
      rw [if_neg (by omega)]
      simp; omega
    refine ⟨fun n hn => ?_, hlast⟩
    by_cases h1 : n < 2 ^ (k + 1) - 1
    · obtain ⟨b1, b2, b3, b4⟩ := hb n h1
      exact ⟨b1, by omega, b3, fun h _ => by omega⟩
    · by_cases h2 : n = 2 ^ (k + 1 + 1) - 2
      · subst h2; rw [hlast]; exact ⟨by simp; omega, Nat.le_refl _, by simp; omega, fun _ h => by omega⟩
      · obtain ⟨m, rfl⟩ : ∃ m, n = 2 ^ (k + 1) - 1 + m := ⟨n - (2 ^ (k + 1) - 1), by omega⟩
        have hm : m < 2 ^ (k + 1) - 1 := by omega
        obtain ⟨b1, b2, b3, b4⟩ := hb m hm
        rw [hsh m hm]
        refine ⟨by simp; omega, by simp; omega, b3, fun h _ => ?_⟩
        simp only at h ⊢
        by_cases h3 : m + 1 < 2 ^ (k + 1) - 1
        · have := b4 (by omega) h3; omega
        · have : m = 2 ^ (k + 1) - 2 := by omega
          subst this
          rw [hl]
          simp; omega

theorem kst_shift (k : Nat) (hk : k < 63) : ∀ m, m < 2 ^ (k + 1) - 1 → kst (2 ^ (k + 1) - 1 + m) = ((kst m).1 + 2 ^ k, (kst m).2) := by
  obtain ⟨hb, hl⟩ := kst_block k hk
  have e1 : 2 ^ (k + 1) = 2 * 2 ^ k := by rw [Nat.pow_succ]; omega
  have hp := Nat.two_pow_pos k
  have hs0 : kst (2 ^ (k + 1) - 1) = (2 ^ k + 1, 1) := by
    rw [show 2 ^ (k + 1) - 1 = (2 ^ (k + 1) - 2) + 1 by omega]
    show kstep (kst _) = _
    rw [hl, kstep, if_pos (lowN_pow k 64 (by omega))]
  intro m
  induction m with
  | zero => intro _; rw [Nat.add_zero, hs0]; simp [kst, Nat.add_comm]
  | succ m ih =>
    intro hm
    obtain ⟨b1, b2, b3, b4⟩ := hb m (by omega)
    rw [← Nat.add_assoc]
    show kstep (kst (2 ^ (k + 1) - 1 + m)) = _
    rw [ih (by omega)]
    show kstep _ = ((kstep (kst m)).1 + 2 ^ k, (kstep (kst m)).2)
    by_cases hu : (kst m).1 = 2 ^ k
    · have hv := b4 hu (by omega)
      have hl1 : lowN 64 (kst m).1 = 2 ^ k := by rw [hu]; exact lowN_pow k 64 (by omega)
      have hl2 : lowN 64 ((kst m).1 + 2 ^ k) = 2 ^ (k + 1) := by
        by_cases h62 : k + 1 < 64
        · rw [hu, show 2 ^ k + 2 ^ k = 2 ^ (k + 1) by omega]; exact lowN_pow (k + 1) 64 h62
        · omega
      simp only [kstep, hl1, hl2]
      rw [if_neg (by omega), if_neg (by omega)]
    · have hl1 := lowN_shift k 64 (kst m).1 (by omega) b1 (by omega)
      simp only [kstep, hl1]
      split <;> simp <;> omega

/-- The i-th number, i from 1 on. -/
def lubyN (i : Nat) : Nat := (kst (i - 1)).2

theorem lubyN_last (k : Nat) (hk : k < 63) : lubyN (2 ^ (k + 1) - 1) = 2 ^ k := by
  unfold lubyN
  rw [show 2 ^ (k + 1) - 1 - 1 = 2 ^ (k + 1) - 2 by omega, (kst_block k hk).2]
theorem lubyN_step (k i : Nat) (hk : k < 63) (h1 : 2 ^ (k + 1) ≤ i) (h2 : i + 1 < 2 ^ (k + 2)) : lubyN i = lubyN (i + 1 - 2 ^ (k + 1)) := by
  have e2 : 2 ^ (k + 2) = 2 * 2 ^ (k + 1) := by rw [Nat.pow_succ (n := 2) (m := k + 1)]; omega
  unfold lubyN
  obtain ⟨m, hm⟩ : ∃ m, i - 1 = 2 ^ (k + 1) - 1 + m := ⟨i - 1 - (2 ^ (k + 1) - 1), by omega⟩
  rw [hm, kst_shift k hk m (by omega), show i + 1 - 2 ^ (k + 1) - 1 = m by omega]

/-- By the power at the top: i = 2^(j+1) - 1, or it is as the number further down. -/
theorem lubyN_top (j i : Nat) (hj : j < 60) (h1 : 2 ^ j ≤ i) (h2 : i < 2 ^ (j + 1)) :
    (i + 1 = 2 ^ (j + 1) → lubyN i = 2 ^ j) ∧ (i + 1 ≠ 2 ^ (j + 1) → lubyN i = lubyN (i + 1 - 2 ^ j) ∧ i + 1 - 2 ^ j < i ∧ 1 ≤ i + 1 - 2 ^ j) := by
  refine ⟨fun h => ?_, fun h => ?_⟩
  · rw [show i = 2 ^ (j + 1) - 1 by omega]; exact lubyN_last j (by omega)
  · cases j with
    | zero => simp at h1 h2 h; omega
    | succ k =>
      have hp := Nat.two_pow_pos k
      have e1 : 2 ^ (k + 1) = 2 * 2 ^ k := by rw [Nat.pow_succ]; omega
      have e3 : 2 ^ (k + 2) = 2 * 2 ^ (k + 1) := by rw [Nat.pow_succ (n := 2) (m := k + 1)]; omega
      have e4 : 2 ^ (k + 1 + 1) = 2 ^ (k + 2) := rfl
      exact ⟨lubyN_step k i (by omega) h1 (by omega), by omega, by omega⟩

theorem log2_bd (i : Nat) (h1 : 1 ≤ i) (h2 : i < 2 ^ 60) : Nat.log2 i < 60 ∧ 2 ^ Nat.log2 i ≤ i ∧ i < 2 ^ (Nat.log2 i + 1) := by
  have a := Nat.log2_self_le (n := i) (by omega)
  have b := Nat.lt_log2_self (n := i)
  refine ⟨?_, a, b⟩
  rcases Nat.lt_or_ge (Nat.log2 i) 60 with h | h
  · exact h
  · have := Nat.pow_le_pow_right (n := 2) (by omega) h
    omega

/-- Each number is a power of 2, at most its place. -/
theorem lubyN_pow : ∀ (n i : Nat), i ≤ n → 1 ≤ i → i < 2 ^ 60 → ∃ k, lubyN i = 2 ^ k ∧ 2 ^ k ≤ i
  | 0, i, hn, h1, _ => by omega
  | n + 1, i, hn, h1, h2 => by
    obtain ⟨hj, a, b⟩ := log2_bd i h1 h2
    obtain ⟨t1, t2⟩ := lubyN_top (Nat.log2 i) i hj a b
    by_cases h : i + 1 = 2 ^ (Nat.log2 i + 1)
    · exact ⟨_, t1 h, a⟩
    · obtain ⟨e, l1, l2⟩ := t2 h
      obtain ⟨k, e', l'⟩ := lubyN_pow n (i + 1 - 2 ^ Nat.log2 i) (by omega) l2 (by omega)
      exact ⟨k, by rw [e, e'], by omega⟩
theorem lubyN_bd (i : Nat) (h1 : 1 ≤ i) (h2 : i < 2 ^ 60) : 1 ≤ lubyN i ∧ lubyN i ≤ i := by
  obtain ⟨k, e, l⟩ := lubyN_pow i i (Nat.le_refl _) h1 h2
  have := Nat.two_pow_pos k
  omega

theorem kst_v (n : Nat) (hn : n < 2 ^ 59) : 1 ≤ (kst n).2 ∧ (kst n).2 ≤ n + 1 := by
  have := lubyN_bd (n + 1) (by omega) (by omega)
  simpa [lubyN] using this
theorem kst_u (n : Nat) : 1 ≤ (kst n).1 ∧ (kst n).1 ≤ n + 1 := by
  induction n with
  | zero => simp [kst]
  | succ n ih =>
    show 1 ≤ (kstep _).1 ∧ (kstep _).1 ≤ _
    unfold kstep
    split <;> simp <;> omega

/-- The sum of the first n. -/
def lubyS : Nat → Nat
  | 0 => 0
  | n + 1 => lubyS n + lubyN (n + 1)
theorem lubyS_bd (n : Nat) (h : n < 2 ^ 28) : n ≤ lubyS n ∧ lubyS n ≤ n * n := by
  induction n with
  | zero => simp [lubyS]
  | succ n ih =>
    obtain ⟨a, b⟩ := ih (by omega)
    have := lubyN_bd (n + 1) (by omega) (by omega)
    have e : (n + 1) * (n + 1) = n * n + n + n + 1 := by rw [Nat.add_mul, Nat.mul_add]; omega
    simp only [lubyS]
    omega
theorem lubyS_mono {a b : Nat} (h : a ≤ b) : lubyS a ≤ lubyS b := by
  induction b with
  | zero => have : a = 0 := by omega
            subst this; exact Nat.le_refl _
  | succ b ih =>
    rcases Nat.lt_or_ge a (b + 1) with h1 | h1
    · have := ih (by omega); simp only [lubyS]; omega
    · have : a = b + 1 := by omega
      subst this; exact Nat.le_refl _

/-- When it begins again: the first sum of units beyond c. -/
def NextIs (c u r : Int) : Prop := ∃ m : Nat, r = u * (lubyS (m + 1) : Nat) ∧ c < r ∧ u * (lubyS m : Nat) ≤ c ∧ (m : Int) ≤ c

theorem NextIs.uniq {c u r r' : Int} (hu : 1 ≤ u) (h : NextIs c u r) (h' : NextIs c u r') : r = r' := by
  obtain ⟨m, e, l1, l2, _⟩ := h
  obtain ⟨m', e', l1', l2', _⟩ := h'
  have key : ∀ (a b : Nat), a + 1 ≤ b → u * (lubyS b : Nat) ≤ c → ¬ (c < u * (lubyS (a + 1) : Nat)) := fun a b hab h1 h2 => by
    have := lubyS_mono hab
    have h3 : u * (lubyS (a + 1) : Nat) ≤ u * (lubyS b : Nat) := Int.mul_le_mul_of_nonneg_left (by omega) (by omega)
    omega
  rcases Nat.lt_trichotomy m m' with h | h | h
  · exact absurd (e ▸ l1) (key m m' (by omega) l2')
  · subst h; rw [e, e']
  · exact absurd (e' ▸ l1') (key m' m (by omega) l2)
end Go.Proofs.Ytnbodnihfkfmnaa
