/- Layer 8 (rup), in plain Lean: what followed, and by which clauses. -/
import Derived.Test.YtdhohoabcokdjaaRupP
import Derived.Test.YtdhohoabcokdjaaProp2
set_option maxRecDepth 100000
namespace Go.Proofs.Ytdhohoabcokdjaa

/-- The literals t followed of l0, one behind the other; f tells by which clause. -/
structure Fol (L : List (List Int)) (l0 t : List Int) (f : Int → Option Int) : Prop where
  good : Good (l0 ++ t)
  out : ∀ z, z ∉ t → f z = none
  by_ : ∀ (j : Nat) (z : Int), t[j]? = some z → ∃ (i : Nat) (c : List Int), f z = some (i : Int) ∧ L[i]? = some c ∧ unitB (l0 ++ t.take j) c = true ∧ unitU (l0 ++ t.take j) c = z

theorem Fol.nil {L : List (List Int)} {l0 : List Int} (h : Good l0) : Fol L l0 [] fun _ => none :=
  ⟨by simpa using h, fun _ _ => rfl, fun j z hj => by simp at hj⟩

theorem Fol.snoc {L : List (List Int)} {l0 t : List Int} {f : Int → Option Int} (h : Fol L l0 t f) {i : Nat} {c : List Int} (hc : L[i]? = some c) (hu : unitB (l0 ++ t) c = true) :
    Fol L l0 (t ++ [unitU (l0 ++ t) c]) fun z => if z = unitU (l0 ++ t) c then some (i : Int) else f z := by
  obtain ⟨_, hv, h1, h2, _⟩ := unit_lits hu
  refine ⟨by rw [← List.append_assoc]; exact h.good.step hu, fun z hz => ?_, fun j z hj => ?_⟩
  · rw [List.mem_append, List.mem_singleton, not_or] at hz
    simp only [if_neg hz.2]
    exact h.out z hz.1
  · rcases Nat.lt_or_ge j t.length with hlt | hge
    · rw [List.getElem?_append_left hlt] at hj
      have hzt : z ∈ t := List.mem_of_getElem? hj
      have hne : z ≠ unitU (l0 ++ t) c := fun e => by
        rw [hasV_not] at h1
        exact h1 (List.mem_append.2 (Or.inr (e ▸ hzt)))
      obtain ⟨i', c', g1, g2, g3, g4⟩ := h.by_ j z hj
      refine ⟨i', c', by simp only [if_neg hne]; exact g1, g2, ?_, ?_⟩
      · rw [List.take_append_of_le_length (by omega)]; exact g3
      · rw [List.take_append_of_le_length (by omega)]; exact g4
    · have hj' := (List.getElem?_eq_some_iff.1 hj).1
      rw [List.length_append, List.length_singleton] at hj'
      have hje : j = t.length := by omega
      subst hje
      rw [List.getElem?_append_right (Nat.le_refl _), Nat.sub_self] at hj
      have hz : unitU (l0 ++ t) c = z := by simpa using hj
      refine ⟨i, c, by simp only [if_pos hz.symm], hc, ?_, ?_⟩
      · rw [List.take_append_of_le_length (Nat.le_refl _), List.take_length]; exact hu
      · rw [List.take_append_of_le_length (Nat.le_refl _), List.take_length]; exact hz

/-- How it ends: a clause that fails, or none that fails or is unit. -/
def EndF (L : List (List Int)) (l : List Int) (k : Int) : Prop :=
  (k < 0 → k = -1 ∧ ∀ c ∈ L, failP l c = false ∧ unitB l c = false) ∧ (0 ≤ k → ∃ (i : Nat) (c : List Int), k = (i : Int) ∧ L[i]? = some c ∧ failP l c = true)

theorem open_unit {l c : List Int} {L : List (List Int)} (hc : c ∈ L) (hu : unitB l c = true) : openN L (l ++ [unitU l c]) < openN L l := by
  refine openN_mem _ hc ?_
  rw [cnV_step hu]
  unfold unitB at hu
  simp only [Bool.and_eq_true, decide_eq_true_eq] at hu
  omega

/-- What stands of one sweep so far. -/
def SweepF (L : List (List Int)) (l0 t0 t : List Int) (k : Nat) (g : Bool) : Prop := (g = true → t0.length < t.length) ∧ (g = false → t = t0 ∧ ∀ c ∈ L.take k, failP (l0 ++ t) c = false ∧ unitB (l0 ++ t) c = false)
theorem SweepF.nil (L : List (List Int)) (l0 t0 : List Int) : SweepF L l0 t0 t0 0 false := ⟨fun h => (by cases h), fun _ => ⟨rfl, by simp⟩⟩
theorem SweepF.grow {L : List (List Int)} {l0 t0 t : List Int} {k : Nat} {g : Bool} (h : SweepF L l0 t0 t k g) (u : Int) : SweepF L l0 t0 (t ++ [u]) (k + 1) true := by
  refine ⟨fun _ => ?_, fun h => by cases h⟩
  rw [List.length_append, List.length_singleton]
  cases g with
  | true => have := h.1 rfl; omega
  | false => rw [(h.2 rfl).1]; omega
theorem SweepF.skip {L : List (List Int)} {l0 t0 t : List Int} {k : Nat} {g : Bool} (h : SweepF L l0 t0 t k g) {c : List Int} (hc : L[k]? = some c) (h1 : failP (l0 ++ t) c = false) (h2 : unitB (l0 ++ t) c = false) : SweepF L l0 t0 t (k + 1) g := by
  refine ⟨h.1, fun hg => ⟨(h.2 hg).1, fun d hd => ?_⟩⟩
  rw [take_succ_of hc] at hd
  rcases List.mem_append.1 hd with hd | hd
  · exact (h.2 hg).2 d hd
  · rw [List.mem_singleton.1 hd]; exact ⟨h1, h2⟩
end Go.Proofs.Ytdhohoabcokdjaa
