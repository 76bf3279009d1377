/- Layer 8 (rup), in plain Lean: the beginning, a step, a chain of hints. -/
import Derived.Test.YtdhohoabcokdjaaUnits2
import Derived.Test.YtdhohoabcokdjaaTaut
set_option maxRecDepth 100000
namespace Go.Proofs.Ytdhohoabcokdjaa

/-- The opposites of a clause's literals, each once. -/
def startL : List Int → List Int → List Int
  | out, [] => out
  | out, x :: c => startL (if hasV out (-x) then out else out ++ [-x]) c
def badV (c : List Int) : Bool := c.any fun x => decide (varV x = 0)
def startV (c : List Int) : List Int := if badV c then [] else if tautV c then [] else startL [] c
def startE (c : List Int) : Int := if badV c then 10 else if tautV c then 11 else 0
theorem startL_snoc (c : List Int) (x : Int) : ∀ out, startL out (c ++ [x]) = (let o := startL out c; if hasV o (-x) then o else o ++ [-x]) := by
  induction c with
  | nil => intro out; rfl
  | cons y c ih => intro out; rw [List.cons_append, startL, startL, ih]
theorem startL_mem (c : List Int) : ∀ out y, y ∈ startL out c ↔ y ∈ out ∨ -y ∈ c := by
  induction c with
  | nil => intro out y; simp [startL]
  | cons x c ih =>
    intro out y
    rw [startL, ih]
    cases h : hasV out (-x)
    · simp only [Bool.false_eq_true, if_false, List.mem_append, List.mem_cons, List.not_mem_nil, or_false]
      constructor
      · rintro ((h1 | h1) | h1)
        · exact Or.inl h1
        · exact Or.inr (Or.inl (by omega))
        · exact Or.inr (Or.inr h1)
      · rintro (h1 | h1 | h1)
        · exact Or.inl (Or.inl h1)
        · exact Or.inl (Or.inr (by omega))
        · exact Or.inr h1
    · have hm : -x ∈ out := by simpa [hasV] using h
      simp only [if_true, List.mem_cons]
      constructor
      · rintro (h1 | h1)
        · exact Or.inl h1
        · exact Or.inr (Or.inr h1)
      · rintro (h1 | h1 | h1)
        · exact Or.inl h1
        · exact Or.inl (by rw [show y = -x by omega]; exact hm)
        · exact Or.inr h1
theorem startL_len (c : List Int) : ∀ out, (startL out c).length ≤ out.length + c.length := by
  induction c with
  | nil => intro out; simp [startL]
  | cons x c ih =>
    intro out
    rw [startL, List.length_cons]
    cases h : hasV out (-x)
    · have := ih (out ++ [-x])
      rw [List.length_append] at this
      simp at this ⊢
      omega
    · have := ih out
      simp at this ⊢
      omega
theorem has_start (c : List Int) (x : Int) : hasV (startL [] c) (-x) = hasV c x := by
  rw [Bool.eq_iff_iff]
  simp only [hasV, List.any_eq_true, beq_iff_eq, exists_eq_right]
  rw [startL_mem]
  simp
theorem badV_take {c : List Int} {k : Nat} {x : Int} (h : badV (c.take k) = false) (hx : c[k]? = some x) (hv : varV x ≠ 0) : badV (c.take (k + 1)) = false := by
  rw [take_succ_of hx]
  unfold badV at h ⊢
  rw [List.any_append, h]
  simp [hv]
theorem badV_hit {c : List Int} {k : Nat} {x : Int} (hx : c[k]? = some x) (hv : varV x = 0) : badV c = true := by
  rw [badV, List.any_eq_true]; exact ⟨x, List.mem_of_getElem? hx, by simp [hv]⟩
theorem badV_mem {c : List Int} (h : badV c = false) : ∀ x ∈ c, varV x ≠ 0 := by
  intro x hx e
  rw [badV, List.any_eq_false] at h
  exact h x hx (by simp [e])
theorem startL_bd {c : List Int} (h : badV c = false) : ∀ x ∈ startL [] c, -100000 ≤ x ∧ x ≤ 100000 := by
  intro x hx
  rw [startL_mem] at hx
  rcases hx with hx | hx
  · cases hx
  · have := varV_pos (badV_mem h _ hx); omega

/-- A step by a hint: the literals, whether there is a conflict, the error. -/
def stepV (l h : List Int) : List Int × Bool × Int := if failP l h then (l, true, 0) else if unitB l h then (l ++ [unitU l h], false, 0) else ([], false, 22)
def chainV (l : List Int) : List (List Int) → Nat → List Int × Int × Int
  | [], i => (l, i, 23)
  | h :: hs, i => if (stepV l h).2.2 ≠ 0 then ([], i, (stepV l h).2.2) else if (stepV l h).2.1 then ((stepV l h).1, i + 1, 0) else chainV (stepV l h).1 hs (i + 1)
def showU (c : List Int) (hs : List (List Int)) : Int := if startE c ≠ 0 then 0 else (chainV (startV c) hs 0).2.1
def showE (c : List Int) (hs : List (List Int)) : Int := if startE c ≠ 0 then startE c else (chainV (startV c) hs 0).2.2
end Go.Proofs.Ytdhohoabcokdjaa
