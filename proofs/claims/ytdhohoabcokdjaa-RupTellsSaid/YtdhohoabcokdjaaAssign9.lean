/- Plain laws of layer 3: what a unit clause says, and what comes of it. -/
import Derived.Test.YtdhohoabcokdjaaAssign4
import Derived.Test.YtdhohoabcokdjaaAssign6
set_option maxRecDepth 100000
namespace Go.Proofs.Ytdhohoabcokdjaa

/-- How many of c's numbers are literals. -/
def manyV (c : List Int) : Int := (c.countP fun x => decide (varV x ≠ 0) : Nat)
theorem manyV_snoc (c : List Int) (x : Int) : manyV (c ++ [x]) = manyV c + if varV x ≠ 0 then 1 else 0 := by
  unfold manyV
  rw [List.countP_append, List.countP_singleton]
  by_cases h : varV x ≠ 0
  · rw [if_pos h, if_pos (by simpa using h)]; omega
  · rw [if_neg h, if_neg (by simpa using h)]; omega
theorem cnV_sum (l c : List Int) : cnV l c 1 + cnV l c (-1) + cnV l c 0 = manyV c := by
  induction c with
  | nil => rfl
  | cons x c ih =>
    have h : ∀ v, cnV l (x :: c) v = cnV l c v + if varV x ≠ 0 ∧ valueV l x = v then 1 else 0 := fun v => by
      have := List.countP_cons (p := fun x => decide (varV x ≠ 0) && decide (valueV l x = v)) (a := x) (l := c)
      unfold cnV
      rw [this]
      by_cases h : varV x ≠ 0 ∧ valueV l x = v
      · rw [if_pos h, if_pos (by simp [h.1, h.2])]; omega
      · rw [if_neg h, if_neg (by simpa using h)]; omega
    have hm : manyV (x :: c) = manyV c + if varV x ≠ 0 then 1 else 0 := by
      unfold manyV
      rw [List.countP_cons]
      by_cases h : varV x ≠ 0
      · rw [if_pos h, if_pos (by simpa using h)]; omega
      · rw [if_neg h, if_neg (by simpa using h)]; omega
    have hb := valueV_bd l x
    rw [h, h, h, hm]
    by_cases hv : varV x = 0
    · simp [hv]; omega
    · rcases (show valueV l x = 1 ∨ valueV l x = -1 ∨ valueV l x = 0 by omega) with e | e | e <;> simp [hv, e] <;> omega
theorem cnV_zero {l c : List Int} {v : Int} (h : cnV l c v = 0) : ∀ x ∈ c, varV x ≠ 0 → valueV l x ≠ v := by
  intro x hx hv e
  unfold cnV at h
  have h' : c.countP (fun x => decide (varV x ≠ 0) && decide (valueV l x = v)) = 0 := by omega
  rw [List.countP_eq_zero] at h'
  exact h' x hx (by simp [hv, e])
theorem valueV_zero {l : List Int} {x : Int} (hv : varV x ≠ 0) (h : valueV l x = 0) : hasV l x = false ∧ hasV l (-x) = false := by
  rw [valueV, if_neg hv] at h
  cases h1 : hasV l x <;> cases h2 : hasV l (-x) <;> simp [h1, h2] at h ⊢
theorem hasV_snoc (l : List Int) (u x : Int) : hasV (l ++ [u]) x = (hasV l x || (u == x)) := by simp [hasV]

theorem unit_facts {l c : List Int} (h0 : cnV l c 0 = 1) : varV (openV l c) ≠ 0 ∧ valueV l (openV l c) = 0 ∧ openV l c ∈ c ∧ ∀ x ∈ c, varV x ≠ 0 → valueV l x = 0 → x = openV l c := by
  have hf := unit_one h0
  have hm : openV l c ∈ c.filter (opP l) := by rw [hf]; exact List.mem_singleton_self _
  rw [List.mem_filter] at hm
  obtain ⟨h1, h2⟩ := hm
  simp only [opP, Bool.and_eq_true, decide_eq_true_eq] at h2
  refine ⟨h2.1, h2.2, h1, fun x hx hv hz => ?_⟩
  have : x ∈ c.filter (opP l) := by rw [List.mem_filter]; exact ⟨hx, by simp [opP, hv, hz]⟩
  rw [hf] at this
  exact List.mem_singleton.1 this

theorem clause_yes {l c : List Int} (h0 : cnV l c 0 = 1) : clauseV (l ++ [openV l c]) c = 1 := by
  obtain ⟨hv, hz, hm, _⟩ := unit_facts h0
  have h : 0 < cnV (l ++ [openV l c]) c 1 := by
    unfold cnV
    rw [Int.natCast_pos, List.countP_pos_iff]
    refine ⟨openV l c, hm, ?_⟩
    rw [valueV, if_neg hv, hasV_snoc]
    simp [hv]
  rw [clauseV, if_pos h]
theorem clause_no {l c : List Int} (h1 : cnV l c 1 = 0) (h0 : cnV l c 0 = 1) : clauseV (l ++ [-openV l c]) c = -1 := by
  obtain ⟨hv, hz, hm, hu⟩ := unit_facts h0
  obtain ⟨hu1, hu2⟩ := valueV_zero hv hz
  have hu0 : openV l c ≠ 0 := (varV_pos hv).1
  have key : ∀ x ∈ c, varV x ≠ 0 → valueV (l ++ [-openV l c]) x = -1 := by
    intro x hx hvx
    have hn1 := cnV_zero h1 x hx hvx
    have hb := valueV_bd l x
    rw [valueV, if_neg hvx, hasV_snoc, hasV_snoc]
    by_cases hz2 : valueV l x = 0
    · have e := hu x hx hvx hz2
      rw [e, hu1, hu2]
      have e1 : (-openV l c == openV l c) = false := by simp; omega
      rw [e1]; simp
    · have hxl : hasV l x = false := by
        cases e : hasV l x
        · rfl
        · rw [valueV, if_neg hvx, e] at hn1; simp at hn1
      have hxn : hasV l (-x) = true := by
        cases e : hasV l (-x)
        · rw [valueV, if_neg hvx, hxl, e] at hz2; simp at hz2
        · rfl
      have e1 : (-openV l c == x) = false := by
        rw [beq_eq_false_iff_ne]
        intro e
        have : -x = openV l c := by omega
        rw [this, hu1] at hxn
        cases hxn
      rw [hxl, hxn, e1]; simp
  have g1 : cnV (l ++ [-openV l c]) c 1 = 0 := by
    unfold cnV
    rw [List.countP_eq_zero.2]
    · rfl
    · intro x hx
      by_cases hvx : varV x = 0
      · simp [hvx]
      · rw [key x hx hvx]; simp
  have g0 : cnV (l ++ [-openV l c]) c 0 = 0 := by
    unfold cnV
    rw [List.countP_eq_zero.2]
    · rfl
    · intro x hx
      by_cases hvx : varV x = 0
      · simp [hvx]
      · rw [key x hx hvx]; simp
  rw [clauseV, g1, g0]; simp
theorem assign_yes {l c : List Int} {v : Int} (h0 : cnV l c 0 = 1) (ha : assignV l v = 0) (hc : checkV (openV l c) v = 0) : assignV (l ++ [openV l c]) v = 0 := by
  obtain ⟨hv, hz, _, _⟩ := unit_facts h0
  obtain ⟨hu1, hu2⟩ := valueV_zero hv hz
  rw [assignV] at ha
  by_cases h1 : v < 0 ∨ 100000 < v
  · rw [if_pos h1] at ha; cases ha
  · rw [if_neg h1] at ha
    cases hb : badL l v
    · rw [hb, if_neg (by simp)] at ha
      by_cases hn : (l.map varV).Nodup
      · refine assignV_ok h1 (badL_snoc hb hc) ?_
        rw [List.map_append]
        rw [show [openV l c].map varV = [varV (openV l c)] from rfl, nodup_snoc]
        refine ⟨hn, fun hm => ?_⟩
        rcases (mem_vars hc).1 hm with e | e
        · rw [hu1] at e; cases e
        · rw [hu2] at e; cases e
      · rw [if_neg hn] at ha; cases ha
    · rw [hb] at ha; simp at ha
end Go.Proofs.Ytdhohoabcokdjaa
