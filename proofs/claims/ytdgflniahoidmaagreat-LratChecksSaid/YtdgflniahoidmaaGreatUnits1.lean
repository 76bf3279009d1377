/- Layer 7 (units): an assignment that grows, and what a clause's literals are in it. -/
import Derived.Test.YtdgflniahoidmaaGreatAssign1
import Derived.Test.YtdgflniahoidmaaGreatSl
import Derived.Test.YtdgflniahoidmaaGreatAssign5
import Derived.Test.YtdgflniahoidmaaGreatTaut
import Derived.Laws.EntriesVeiled
import Derived.BigQuiet
import Derived.Test.YtdgflniahoidmaaGreatApp
set_option maxRecDepth 100000
namespace Go.Proofs.YtdgflniahoidmaaGreat
open Go.RowKit Go.Maps

/-- What look tells. -/
def lookH (l c : List Int) : Bool := decide (0 < cnV l c 1)
def lookO (l c : List Int) : Int := if lookH l c then 0 else openV l c
def lookM (l c : List Int) : Int := if lookH l c then 0 else min 2 (cnV l c 0)


end Go.Proofs.YtdgflniahoidmaaGreat

/- Layer 7 (units): the first clause that fails, the first one that is unit. -/
namespace Go.Proofs.YtdgflniahoidmaaGreat
open Go.RowKit Go.Maps

def failP (l c : List Int) : Bool := clauseV l c == -1
/-- The first clause that fails, or -1. -/
def failsV (l : List Int) (L : List (List Int)) : Int := idxP (failP l) L
/-- The first clause that is unit, or -1; what it says, or 0. -/
def nextU (l : List Int) (L : List (List Int)) : Int := idxP (unitB l) L
def nextS (l : List Int) (L : List (List Int)) : Int := match L.findIdx? (unitB l) with | some j => unitU l (L.getD j []) | none => 0

theorem look_holds {l c : List Int} (h : lookH l c = true) : failP l c = false ∧ unitB l c = false := by
  unfold lookH at h
  rw [decide_eq_true_eq] at h
  exact ⟨by rw [failP, clauseV, if_pos h]; rfl, unitB_not1 (by omega)⟩
theorem look_open {l c : List Int} (h : lookH l c = false) : (lookM l c = 0 ∧ failP l c = true ∧ unitB l c = false) ∨ (lookM l c = 1 ∧ failP l c = false ∧ unitB l c = true ∧ lookO l c = unitU l c) ∨ (lookM l c = 2 ∧ failP l c = false ∧ unitB l c = false) := by
  have h' := h
  unfold lookH at h
  rw [decide_eq_false_iff_not] at h
  have b1 := (cnV_bd l c 1).1
  have b0 := (cnV_bd l c 0).1
  have hM : lookM l c = min 2 (cnV l c 0) := by rw [lookM, h']; rfl
  have hO : lookO l c = openV l c := by rw [lookO, h']; rfl
  by_cases e0 : cnV l c 0 = 0
  · exact Or.inl ⟨by omega, by rw [failP, clauseV, if_neg h, if_neg (by omega)]; rfl, unitB_not0 (by omega)⟩
  · have hf : failP l c = false := by rw [failP, clauseV, if_neg h, if_pos (by omega)]; rfl
    by_cases e1 : cnV l c 0 = 1
    · have hu := unitB_of (by omega) e1
      exact Or.inr (Or.inl ⟨by omega, hf, hu, by rw [hO, unitU, hu]; rfl⟩)
    · exact Or.inr (Or.inr ⟨by omega, hf, unitB_not0 e1⟩)

theorem idxP_snoc_hit {α : Type} {p : α → Bool} {xs : List α} {y : α} (h : xs.findIdx? p ≠ none) : (xs ++ [y]).findIdx? p = xs.findIdx? p := by
  rw [List.findIdx?_append]
  cases e : xs.findIdx? p with
  | none => exact absurd e h
  | some k => rfl
theorem idxP_snoc_no {α : Type} {p : α → Bool} {xs : List α} {y : α} (h : p y = false) : (xs ++ [y]).findIdx? p = xs.findIdx? p := by
  rw [List.findIdx?_append]
  cases e : xs.findIdx? p with
  | none => simp [h]
  | some k => rfl
theorem idxP_snoc_new {α : Type} {p : α → Bool} {xs : List α} {y : α} (h : xs.findIdx? p = none) (hy : p y = true) : (xs ++ [y]).findIdx? p = some xs.length := by
  rw [List.findIdx?_append, h]
  simp [hy]
theorem idxP_neg {α : Type} {p : α → Bool} {xs : List α} : idxP p xs < 0 ↔ xs.findIdx? p = none := by
  unfold idxP
  cases xs.findIdx? p with
  | none => simp
  | some k => simp
theorem idxP_bd {α : Type} (p : α → Bool) (xs : List α) : -1 ≤ idxP p xs ∧ idxP p xs < xs.length := by
  unfold idxP
  cases e : xs.findIdx? p with
  | none => simp; omega
  | some k =>
    rw [List.findIdx?_eq_some_iff_getElem] at e
    obtain ⟨hk, _⟩ := e
    simp; omega
theorem next_same {l : List Int} {L : List (List Int)} {c : List Int} (h : unitB l c = false ∨ ¬ nextU l L < 0) : nextU l (L ++ [c]) = nextU l L ∧ nextS l (L ++ [c]) = nextS l L := by
  have e : (L ++ [c]).findIdx? (unitB l) = L.findIdx? (unitB l) := by
    rcases h with h | h
    · exact idxP_snoc_no h
    · exact idxP_snoc_hit (fun e => h (idxP_neg.2 e))
  refine ⟨by unfold nextU idxP; rw [e], ?_⟩
  unfold nextS
  rw [e]
  cases hq : L.findIdx? (unitB l) with
  | none => rfl
  | some k =>
    rw [List.findIdx?_eq_some_iff_getElem] at hq
    obtain ⟨hk, _⟩ := hq
    simp only [List.getD_eq_getElem?_getD, List.getElem?_append_left hk]
theorem next_new {l : List Int} {L : List (List Int)} {c : List Int} (h : nextU l L < 0) (hc : unitB l c = true) : nextU l (L ++ [c]) = L.length ∧ nextS l (L ++ [c]) = unitU l c := by
  have e := idxP_snoc_new (idxP_neg.1 h) hc
  refine ⟨by unfold nextU idxP; rw [e], ?_⟩
  unfold nextS
  rw [e]
  simp

/-- What step tells. -/
def RetStep (l : List Int) (L : List (List Int)) (w : World) (e : Ending) (w' : World) : Prop :=
  ∃ f u s : Int, e = .returned (.tuple #[.int .i64 f, .int .i64 u, .int .i64 s]) ∧ f = failsV l L ∧ (f < 0 → u = nextU l L ∧ s = nextS l L) ∧ w = w'

/-- What Next tells. -/
def RetNext (l : List Int) (L : List (List Int)) (w : World) (e : Ending) (w' : World) : Prop :=
  ∃ (x i : Int) (t : Bool), e = .returned (.tuple #[.int .i64 x, .int .i64 i, .bool t]) ∧ x = nextS l L ∧ i = (if 0 ≤ nextU l L then nextU l L else 0) ∧ t = decide (0 ≤ nextU l L) ∧ Ext w w'


end Go.Proofs.YtdgflniahoidmaaGreat

/- Layer 7: what follows by unit clauses, in plain Lean. -/
namespace Go.Proofs.YtdgflniahoidmaaGreat

/-- All that follows, in at most k steps: the literals, the clauses they come of, the clause that fails or -1. -/
def propV (L : List (List Int)) : Nat → List Int → List Int → List Int × List Int × Int
  | 0, l, b => (l, b, -1)
  | k + 1, l, b => if 0 ≤ failsV l L then (l, b, failsV l L) else if nextU l L < 0 then (l, b, -1) else propV L k (l ++ [nextS l L]) (b ++ [nextU l L])

/-- How many literals are open in all clauses. -/
def openN (L : List (List Int)) (l : List Int) : Int := (L.map fun c => cnV l c 0).sum
theorem openN_nil (l : List Int) : openN [] l = 0 := rfl
theorem openN_cons (L : List (List Int)) (c l : List Int) : openN (c :: L) l = cnV l c 0 + openN L l := rfl
theorem openN_pos (L : List (List Int)) (l : List Int) : 0 ≤ openN L l := by
  induction L with
  | nil => exact Int.le_refl _
  | cons c L ih => rw [openN_cons]; have := (cnV_bd l c 0).1; omega
theorem valueV_keep {l : List Int} {u x : Int} (hx : varV x ≠ 0) (h : valueV (l ++ [u]) x = 0) : valueV l x = 0 := by
  obtain ⟨h1, h2⟩ := valueV_zero hx h
  rw [hasV_snoc, Bool.or_eq_false_iff] at h1 h2
  rw [valueV, if_neg hx, h1.1, h2.1]; rfl
theorem cnV_down (l c : List Int) (u : Int) : cnV (l ++ [u]) c 0 ≤ cnV l c 0 := by
  unfold cnV
  have := List.countP_mono_left (p := fun x => decide (varV x ≠ 0) && decide (valueV (l ++ [u]) x = 0)) (q := fun x => decide (varV x ≠ 0) && decide (valueV l x = 0)) (l := c) (by
    intro x _ h
    simp only [Bool.and_eq_true, decide_eq_true_eq] at h ⊢
    exact ⟨h.1, valueV_keep h.1 h.2⟩)
  omega
theorem openN_down (L : List (List Int)) (l : List Int) (u : Int) : openN L (l ++ [u]) ≤ openN L l := by
  induction L with
  | nil => exact Int.le_refl _
  | cons c L ih => rw [openN_cons, openN_cons]; have := cnV_down l c u; omega
/-- In the clause that is unit no literal is open behind the step. -/
theorem cnV_step {l c : List Int} (h : unitB l c = true) : cnV (l ++ [unitU l c]) c 0 = 0 := by
  have h0 : cnV l c 0 = 1 := by
    unfold unitB at h
    simp only [Bool.and_eq_true, decide_eq_true_eq] at h
    exact h.2
  have hu : unitU l c = openV l c := by rw [unitU, h]; rfl
  rw [hu]
  obtain ⟨hv, _, _, hall⟩ := unit_facts h0
  unfold cnV
  rw [List.countP_eq_zero.2]
  · rfl
  · intro x hx hc
    simp only [Bool.and_eq_true, decide_eq_true_eq] at hc
    have e := hall x hx hc.1 (valueV_keep hc.1 hc.2)
    obtain ⟨h1, _⟩ := valueV_zero hc.1 hc.2
    rw [hasV_snoc, e] at h1
    simp at h1
theorem openN_mem {L : List (List Int)} {l c : List Int} (u : Int) (h : c ∈ L) (hlt : cnV (l ++ [u]) c 0 < cnV l c 0) : openN L (l ++ [u]) < openN L l := by
  induction L with
  | nil => cases h
  | cons d L ih =>
    rw [openN_cons, openN_cons]
    rcases List.mem_cons.1 h with e | e
    · subst e
      have := openN_down L l u
      omega
    · have := cnV_down l d u
      have := ih e
      omega
theorem next_mem {l : List Int} {L : List (List Int)} (h : ¬ nextU l L < 0) : ∃ c ∈ L, unitB l c = true ∧ nextS l L = unitU l c := by
  cases e : L.findIdx? (unitB l) with
  | none => exact absurd (idxP_neg.2 e) h
  | some k =>
    have e' := e
    rw [List.findIdx?_eq_some_iff_getElem] at e
    obtain ⟨hk, hp, _⟩ := e
    refine ⟨L[k], List.getElem_mem hk, hp, ?_⟩
    rw [nextS, e']
    simp [hk]
theorem open_step {l : List Int} {L : List (List Int)} (h : ¬ nextU l L < 0) : openN L (l ++ [nextS l L]) < openN L l := by
  obtain ⟨c, hc, hu, hs⟩ := next_mem h
  rw [hs]
  refine openN_mem _ hc ?_
  rw [cnV_step hu]
  unfold unitB at hu
  simp only [Bool.and_eq_true, decide_eq_true_eq] at hu
  omega
/-- More fuel than open literals changes nothing. -/
theorem propV_fuel (L : List (List Int)) : ∀ (k m : Nat) (l b : List Int), openN L l < k → openN L l < m → propV L k l b = propV L m l b
  | 0, m, l, b, h, _ => by have := openN_pos L l; omega
  | k + 1, 0, l, b, _, h => by have := openN_pos L l; omega
  | k + 1, m + 1, l, b, h1, h2 => by
    unfold propV
    by_cases hf : 0 ≤ failsV l L
    · rw [if_pos hf, if_pos hf]
    · rw [if_neg hf, if_neg hf]
      by_cases hn : nextU l L < 0
      · rw [if_pos hn, if_pos hn]
      · rw [if_neg hn, if_neg hn]
        have := open_step hn
        exact propV_fuel L k m _ _ (by omega) (by omega)
/-- How many numbers the clauses have. -/
def mostN (L : List (List Int)) : Nat := (L.map List.length).sum
theorem openN_most (L : List (List Int)) (l : List Int) : openN L l ≤ (mostN L : Int) := by
  induction L with
  | nil => exact Int.le_refl _
  | cons c L ih =>
    have e : mostN (c :: L) = c.length + mostN L := rfl
    rw [openN_cons, e]
    have := (cnV_bd l c 0).2
    omega
end Go.Proofs.YtdgflniahoidmaaGreat

/- Layer 7: what holds of all that follows by unit clauses, in plain Lean: bounds, soundness, the end, and that the clauses' order does not matter. -/
namespace Go.Proofs.YtdgflniahoidmaaGreat

theorem varV_neg (x : Int) : varV (-x) = varV x := by unfold varV; (repeat (first | omega | split))
theorem propV_ind (L : List (List Int)) (P : List Int → List Int → Prop) (step : ∀ l b, ¬ 0 ≤ failsV l L → ¬ nextU l L < 0 → P l b → P (l ++ [nextS l L]) (b ++ [nextU l L])) :
    ∀ k l b, P l b → P (propV L k l b).1 (propV L k l b).2.1
  | 0, _, _, h => h
  | k + 1, l, b, h => by
    unfold propV
    by_cases hf : 0 ≤ failsV l L
    · rw [if_pos hf]; exact h
    · rw [if_neg hf]
      by_cases hn : nextU l L < 0
      · rw [if_pos hn]; exact h
      · rw [if_neg hn]; exact propV_ind L P step k _ _ (step l b hf hn h)
theorem propV_len (L : List (List Int)) (k : Nat) (l : List Int) : (propV L k l []).1.length = l.length + (propV L k l []).2.1.length :=
  propV_ind L (fun x y => x.length = l.length + y.length) (fun x y _ _ h => by simp; omega) k l [] (by simp)
theorem propV_most (L : List (List Int)) (k : Nat) (l b : List Int) : ((propV L k l b).1.length : Int) + openN L (propV L k l b).1 ≤ l.length + openN L l :=
  propV_ind L (fun x _ => (x.length : Int) + openN L x ≤ l.length + openN L l) (fun x y _ hn h => by have := open_step hn; simp; omega) k l b (by simp)
theorem propV_bd (L : List (List Int)) (k : Nat) (l b : List Int) (h : ∀ x ∈ l, -9223372036854775808 ≤ x ∧ x ≤ 9223372036854775807) : ∀ x ∈ (propV L k l b).1, -9223372036854775808 ≤ x ∧ x ≤ 9223372036854775807 :=
  propV_ind L (fun y _ => ∀ x ∈ y, -9223372036854775808 ≤ x ∧ x ≤ 9223372036854775807) (fun y z _ hn hy x hx => by
    rcases List.mem_append.1 hx with hx | hx
    · exact hy x hx
    · rw [List.mem_singleton.1 hx]
      obtain ⟨c, _, hu, hs⟩ := next_mem hn
      rw [hs, unitU, hu, if_pos rfl]
      unfold unitB at hu
      simp only [Bool.and_eq_true, decide_eq_true_eq] at hu
      have := (varV_pos (unit_facts hu.2).1).2
      omega) k l b h
theorem propV_by (L : List (List Int)) (k : Nat) (l : List Int) : ∀ i ∈ (propV L k l []).2.1, 0 ≤ i ∧ i < (L.length : Int) :=
  propV_ind L (fun _ y => ∀ i ∈ y, 0 ≤ i ∧ i < (L.length : Int)) (fun y z _ hn hy i hi => by
    rcases List.mem_append.1 hi with hi | hi
    · exact hy i hi
    · rw [List.mem_singleton.1 hi]
      have := (idxP_bd (unitB y) L).2
      have e : nextU y L = idxP (unitB y) L := rfl
      omega) k l [] (by simp)
theorem propV_pre (L : List (List Int)) (k : Nat) (l b : List Int) : ∃ t, (propV L k l b).1 = l ++ t :=
  propV_ind L (fun y _ => ∃ t, y = l ++ t) (fun y z _ _ ⟨t, ht⟩ => ⟨t ++ [nextS y L], by rw [ht, List.append_assoc]⟩) k l b ⟨[], by simp⟩
theorem failsV_bd (l : List Int) (L : List (List Int)) : -1 ≤ failsV l L ∧ failsV l L < L.length := idxP_bd _ _
theorem propV_k (L : List (List Int)) : ∀ k l b, -1 ≤ (propV L k l b).2.2 ∧ (propV L k l b).2.2 < (L.length : Int)
  | 0, _, _ => by show -1 ≤ (-1 : Int) ∧ (-1 : Int) < _; omega
  | k + 1, l, b => by
    have hb := failsV_bd l L
    unfold propV
    by_cases hf : 0 ≤ failsV l L
    · rw [if_pos hf]; exact hb
    · rw [if_neg hf]
      by_cases hn : nextU l L < 0
      · rw [if_pos hn]; show -1 ≤ (-1 : Int) ∧ (-1 : Int) < _; omega
      · rw [if_neg hn]; exact propV_k L k _ _
theorem propV_fail (L : List (List Int)) : ∀ k l b, 0 ≤ (propV L k l b).2.2 → failsV (propV L k l b).1 L = (propV L k l b).2.2
  | 0, _, _, h => by have h' : (0 : Int) ≤ -1 := h; omega
  | k + 1, l, b, h => by
    unfold propV at h ⊢
    by_cases hf : 0 ≤ failsV l L
    · rw [if_pos hf]
    · rw [if_neg hf] at h ⊢
      by_cases hn : nextU l L < 0
      · rw [if_pos hn] at h; have h' : (0 : Int) ≤ -1 := h; omega
      · rw [if_neg hn] at h ⊢; exact propV_fail L k _ _ h
theorem propV_end (L : List (List Int)) : ∀ (k : Nat) (l b : List Int), openN L l < k → (propV L k l b).2.2 < 0 → failsV (propV L k l b).1 L < 0 ∧ nextU (propV L k l b).1 L < 0
  | 0, l, _, hk, _ => by have := openN_pos L l; omega
  | k + 1, l, b, hk, h => by
    unfold propV at h ⊢
    by_cases hf : 0 ≤ failsV l L
    · rw [if_pos hf] at h; have h' : failsV l L < 0 := h; omega
    · rw [if_neg hf] at h ⊢
      by_cases hn : nextU l L < 0
      · rw [if_pos hn]; exact ⟨by show failsV l L < 0; omega, hn⟩
      · rw [if_neg hn] at h ⊢
        have := open_step hn
        exact propV_end L k _ _ (by omega) h
theorem propV_end' (L : List (List Int)) (l : List Int) (h : (propV L (mostN L + 1) l []).2.2 < 0) : failsV (propV L (mostN L + 1) l []).1 L < 0 ∧ nextU (propV L (mostN L + 1) l []).1 L < 0 :=
  propV_end L _ l [] (by have := openN_most L l; omega) h
theorem fails_mem {l : List Int} {L : List (List Int)} (h : ¬ failsV l L < 0) : ∃ c ∈ L, failP l c = true ∧ ∃ k : Nat, failsV l L = k ∧ L[k]? = some c := by
  cases e : L.findIdx? (failP l) with
  | none => exact absurd (idxP_neg.2 e) h
  | some k =>
    have e' := e
    rw [List.findIdx?_eq_some_iff_getElem] at e
    obtain ⟨hk, hp, _⟩ := e
    exact ⟨L[k], List.getElem_mem hk, hp, k, by rw [failsV, idxP, e'], List.getElem?_eq_getElem hk⟩
theorem fails_none {l : List Int} {L : List (List Int)} (h : failsV l L < 0) : ∀ c ∈ L, failP l c = false := by
  rw [failsV, idxP_neg, List.findIdx?_eq_none_iff] at h; exact h
theorem next_none {l : List Int} {L : List (List Int)} (h : nextU l L < 0) : ∀ c ∈ L, unitB l c = false := by
  rw [nextU, idxP_neg, List.findIdx?_eq_none_iff] at h; exact h
theorem fail_lits {l c : List Int} (h : failP l c = true) : ∀ x ∈ c, varV x ≠ 0 → hasV l x = false ∧ hasV l (-x) = true := by
  intro x hx hv
  have h' : clauseV l c = -1 := by simpa [failP] using h
  have h1 : cnV l c 1 = 0 := by have := (cnV_bd l c 1).1; unfold clauseV at h'; (repeat (first | omega | split at h'))
  have h0 : cnV l c 0 = 0 := by have := (cnV_bd l c 0).1; unfold clauseV at h'; (repeat (first | omega | split at h'))
  have v1 := cnV_zero h1 x hx hv
  have v0 := cnV_zero h0 x hx hv
  unfold valueV at v1 v0
  rw [if_neg hv] at v1 v0
  cases e1 : hasV l x
  · cases e2 : hasV l (-x)
    · rw [e1, e2] at v0; exact absurd rfl v0
    · exact ⟨rfl, rfl⟩
  · rw [e1] at v1; exact absurd rfl v1
theorem fail_of {l c : List Int} (h : ∀ x ∈ c, varV x ≠ 0 → hasV l x = false ∧ hasV l (-x) = true) : failP l c = true := by
  have key : ∀ v : Int, v ≠ -1 → cnV l c v = 0 := by
    intro v hv
    unfold cnV
    rw [List.countP_eq_zero.2]
    · rfl
    · intro x hx hc
      simp only [Bool.and_eq_true, decide_eq_true_eq] at hc
      obtain ⟨h1, h2⟩ := h x hx hc.1
      have := hc.2
      rw [valueV, if_neg hc.1, h1, h2] at this
      exact hv this.symm
  have e1 := key 1 (by decide)
  have e0 := key 0 (by decide)
  rw [failP, clauseV, e1, e0]; rfl
theorem unit_lits {l c : List Int} (h : unitB l c = true) : unitU l c ∈ c ∧ varV (unitU l c) ≠ 0 ∧ hasV l (unitU l c) = false ∧ hasV l (-unitU l c) = false ∧ ∀ x ∈ c, varV x ≠ 0 → x ≠ unitU l c → hasV l x = false ∧ hasV l (-x) = true := by
  have hu : unitU l c = openV l c := by rw [unitU, h]; rfl
  unfold unitB at h
  simp only [Bool.and_eq_true, decide_eq_true_eq] at h
  obtain ⟨f1, f2, f3, f4⟩ := unit_facts h.2
  rw [hu]
  obtain ⟨g1, g2⟩ := valueV_zero f1 f2
  refine ⟨f3, f1, g1, g2, fun x hx hv hne => ?_⟩
  have v1 := cnV_zero h.1 x hx hv
  have v0 : valueV l x ≠ 0 := fun e => hne (f4 x hx hv e)
  unfold valueV at v1 v0
  rw [if_neg hv] at v1 v0
  cases e1 : hasV l x
  · cases e2 : hasV l (-x)
    · rw [e1, e2] at v0; exact absurd rfl v0
    · exact ⟨rfl, rfl⟩
  · rw [e1] at v1; exact absurd rfl v1

/-! ### soundness -/
theorem litHolds_neg {m : List Bool} {x : Int} (h : varV x ≠ 0) : litHolds m (-x) = !litHolds m x := by
  have hs : sideV (-x) = !sideV x := by
    obtain ⟨h1, h2, h3⟩ := varV_pos h
    unfold sideV
    by_cases h0 : 0 < x
    · rw [decide_eq_true h0, decide_eq_false (show ¬ 0 < -x by omega), decide_eq_true h3]; rfl
    · rw [decide_eq_false h0, decide_eq_true (show 0 < -x by omega), decide_eq_true (show -x ≤ 100000 by omega)]; rfl
  unfold litHolds
  rw [varV_neg, hs, decide_eq_true h]
  cases truthV m (varV x) <;> cases sideV x <;> rfl
theorem litHolds_var {m : List Bool} {x : Int} (h : litHolds m x = true) : varV x ≠ 0 := by
  unfold litHolds at h
  simp only [Bool.and_eq_true, decide_eq_true_eq] at h
  exact h.1
def AllH (l : List Int) (m : List Bool) : Prop := ∀ x ∈ l, varV x ≠ 0 → litHolds m x = true
def HoldL (L : List (List Int)) (m : List Bool) : Prop := ∀ c ∈ L, holdsV c m = true
theorem AllH.not_neg {l : List Int} {m : List Bool} (h : AllH l m) {x : Int} (hv : varV x ≠ 0) (hx : hasV l (-x) = true) : litHolds m x = false := by
  have : -x ∈ l := by simpa [hasV] using hx
  have := h (-x) this (by rw [varV_neg]; exact hv)
  rw [litHolds_neg hv] at this
  simpa using this
theorem holds_mem {c : List Int} {m : List Bool} (h : holdsV c m = true) : ∃ x ∈ c, varV x ≠ 0 ∧ litHolds m x = true := by
  rw [holdsV, List.any_eq_true] at h
  obtain ⟨x, hx, hh⟩ := h
  exact ⟨x, hx, litHolds_var hh, hh⟩
theorem sound_unit {l c : List Int} {m : List Bool} (hl : AllH l m) (hc : holdsV c m = true) (hu : unitB l c = true) : litHolds m (unitU l c) = true := by
  obtain ⟨x, hx, hv, hh⟩ := holds_mem hc
  obtain ⟨_, _, _, _, hall⟩ := unit_lits hu
  by_cases e : x = unitU l c
  · rw [← e]; exact hh
  · have := hl.not_neg hv (hall x hx hv e).2
    rw [hh] at this; cases this
theorem sound_fail {l c : List Int} {m : List Bool} (hl : AllH l m) (hc : holdsV c m = true) : failP l c = false := by
  cases hf : failP l c with
  | false => rfl
  | true =>
    obtain ⟨x, hx, hv, hh⟩ := holds_mem hc
    have := hl.not_neg hv (fail_lits hf x hx hv).2
    rw [hh] at this; cases this
theorem prop_sound {L : List (List Int)} {l : List Int} {m : List Bool} (hL : HoldL L m) (hl : AllH l m) (k : Nat) : AllH (propV L k l []).1 m ∧ (propV L k l []).2.2 < 0 := by
  have h1 : AllH (propV L k l []).1 m := by
    refine propV_ind L (fun x _ => AllH x m) (fun x y _ hn hx => ?_) k l [] hl
    intro z hz hv
    rcases List.mem_append.1 hz with hz | hz
    · exact hx z hz hv
    · rw [List.mem_singleton.1 hz]
      obtain ⟨c, hc, hu, hs⟩ := next_mem hn
      rw [hs]
      exact sound_unit hx (hL c hc) hu
  refine ⟨h1, ?_⟩
  by_cases h : 0 ≤ (propV L k l []).2.2
  · have hf := propV_fail L k l [] h
    obtain ⟨c, hc, hp, _⟩ := fails_mem (l := (propV L k l []).1) (L := L) (by omega)
    rw [sound_fail h1 (hL c hc)] at hp
    cases hp
  · omega

/-! ### the end, and the order -/
def Good (l : List Int) : Prop := (∀ x ∈ l, varV x ≠ 0) ∧ (l.map varV).Nodup
theorem hasV_not {l : List Int} {x : Int} : hasV l x = false ↔ x ∉ l := by rw [← hasV_mem]; simp
theorem nodup_var {l : List Int} (h : (l.map varV).Nodup) {x y : Int} (hx : x ∈ l) (hy : y ∈ l) (e : varV x = varV y) : x = y := by
  induction l with
  | nil => cases hx
  | cons a l ih =>
    rw [List.map_cons, List.nodup_cons] at h
    rcases List.mem_cons.1 hx with hx | hx
    · rcases List.mem_cons.1 hy with hy | hy
      · rw [hx, hy]
      · exact absurd (by rw [← hx, e]; exact List.mem_map_of_mem hy) h.1
    · rcases List.mem_cons.1 hy with hy | hy
      · exact absurd (by rw [← hy, ← e]; exact List.mem_map_of_mem hx) h.1
      · exact ih h.2 hx hy
theorem Good.neg {l : List Int} (h : Good l) {x : Int} (hx : -x ∈ l) : x ∉ l := fun hy => by
  have e := nodup_var h.2 hy hx (varV_neg x).symm
  have := h.1 x hy
  have := (varV_pos this).1
  omega
theorem Good.nodup {l : List Int} (h : Good l) : l.Nodup := (List.pairwise_map.1 h.2).imp (fun hne e => hne (by rw [e]))
theorem varV_eq {x y : Int} (hx : varV x ≠ 0) (e : varV y = varV x) : y = x ∨ y = -x := by
  revert e hx; unfold varV; (repeat (first | omega | split))
theorem Good.step {l c : List Int} (h : Good l) (hu : unitB l c = true) : Good (l ++ [unitU l c]) := by
  obtain ⟨_, hv, h1, h2, _⟩ := unit_lits hu
  refine ⟨fun x hx => ?_, ?_⟩
  · rcases List.mem_append.1 hx with hx | hx
    · exact h.1 x hx
    · rw [List.mem_singleton.1 hx]; exact hv
  · rw [List.map_append, List.nodup_append]
    refine ⟨h.2, by simp, ?_⟩
    intro a ha b hb
    rw [List.map_singleton, List.mem_singleton] at hb
    obtain ⟨y, hy, rfl⟩ := List.mem_map.1 ha
    intro e
    rw [hb] at e
    rcases varV_eq hv e with e | e
    · rw [hasV_not] at h1; exact h1 (e ▸ hy)
    · rw [hasV_not] at h2; exact h2 (e ▸ hy)
theorem prop_good {L : List (List Int)} {l : List Int} (h : Good l) (k : Nat) : Good (propV L k l []).1 :=
  propV_ind L (fun x _ => Good x) (fun x y _ hn hx => by obtain ⟨c, _, hu, hs⟩ := next_mem hn; rw [hs]; exact hx.step hu) k l [] h
theorem sub_step {l a c : List Int} (ha : Good a) (hs : ∀ x ∈ l, x ∈ a) (hf : failP a c = false) (hn : unitB a c = false) (hu : unitB l c = true) : unitU l c ∈ a := by
  obtain ⟨g1, g2, g3, g4, g5⟩ := unit_lits hu
  by_cases h1 : unitU l c ∈ a
  · exact h1
  exfalso
  have hall : ∀ x ∈ c, varV x ≠ 0 → x ≠ unitU l c → hasV a x = false ∧ hasV a (-x) = true := fun x hx hv hne => by
    have := hs _ (hasV_mem.1 (g5 x hx hv hne).2)
    exact ⟨hasV_not.2 (ha.neg this), hasV_mem.2 this⟩
  by_cases h2 : -unitU l c ∈ a
  · have : failP a c = true := fail_of fun x hx hv => by
      by_cases e : x = unitU l c
      · rw [e]; exact ⟨hasV_not.2 h1, hasV_mem.2 h2⟩
      · exact hall x hx hv e
    rw [this] at hf; cases hf
  · have k1 : cnV a c 1 = 0 := by
      unfold cnV
      rw [List.countP_eq_zero.2]
      · rfl
      · intro x hx hc
        simp only [Bool.and_eq_true, decide_eq_true_eq] at hc
        have hx1 : hasV a x = false := by
          by_cases e : x = unitU l c
          · rw [e]; exact hasV_not.2 h1
          · exact (hall x hx hc.1 e).1
        have := hc.2
        rw [valueV, if_neg hc.1, hx1] at this
        cases h3 : hasV a (-x) <;> rw [h3] at this <;> cases this
    have k0 : cnV a c 0 = 1 := by
      have hb : cnV l c 0 = 1 := by unfold unitB at hu; simp only [Bool.and_eq_true, decide_eq_true_eq] at hu; exact hu.2
      have : (c.countP fun x => decide (varV x ≠ 0) && decide (valueV a x = 0)) = c.countP fun x => decide (varV x ≠ 0) && decide (valueV l x = 0) := by
        refine List.countP_congr fun x hx => ?_
        simp only [Bool.and_eq_true, decide_eq_true_eq]
        constructor
        · rintro ⟨hv, h0⟩
          obtain ⟨z1, z2⟩ := valueV_zero hv h0
          by_cases e : x = unitU l c
          · rw [e]; refine ⟨g2, ?_⟩; rw [valueV, if_neg g2, g3, g4]; rfl
          · rw [(hall x hx hv e).2] at z2; cases z2
        · rintro ⟨hv, h0⟩
          obtain ⟨z1, z2⟩ := valueV_zero hv h0
          by_cases e : x = unitU l c
          · rw [e]; refine ⟨g2, ?_⟩; rw [valueV, if_neg g2, hasV_not.2 h1, hasV_not.2 h2]; rfl
          · rw [(g5 x hx hv e).2] at z2; cases z2
      unfold cnV at hb ⊢
      rw [this]; exact hb
    rw [unitB_of k1 k0] at hn; cases hn
theorem sub_fail {l a c : List Int} (ha : Good a) (hs : ∀ x ∈ l, x ∈ a) (hf : failP a c = false) : failP l c = false := by
  cases h : failP l c with
  | false => rfl
  | true =>
    have : failP a c = true := fail_of fun x hx hv => by
      have := hs _ (hasV_mem.1 (fail_lits h x hx hv).2)
      exact ⟨hasV_not.2 (ha.neg this), hasV_mem.2 this⟩
    rw [this] at hf; cases hf
theorem prop_sub {L M : List (List Int)} {l a : List Int} (hM : ∀ c ∈ M, c ∈ L) (ha : Good a) (hs : ∀ x ∈ l, x ∈ a) (hf : failsV a L < 0) (hn : nextU a L < 0) (k : Nat) :
    (∀ x ∈ (propV M k l []).1, x ∈ a) ∧ (propV M k l []).2.2 < 0 := by
  have h1 : ∀ x ∈ (propV M k l []).1, x ∈ a := by
    refine propV_ind M (fun y _ => ∀ x ∈ y, x ∈ a) (fun y z _ hnn hy x hx => ?_) k l [] hs
    rcases List.mem_append.1 hx with hx | hx
    · exact hy x hx
    · rw [List.mem_singleton.1 hx]
      obtain ⟨c, hc, hu, hss⟩ := next_mem hnn
      rw [hss]
      exact sub_step ha hy (fails_none hf c (hM c hc)) (next_none hn c (hM c hc)) hu
  refine ⟨h1, ?_⟩
  by_cases h : 0 ≤ (propV M k l []).2.2
  · have hff := propV_fail M k l [] h
    obtain ⟨c, hc, hp, _⟩ := fails_mem (l := (propV M k l []).1) (L := M) (by omega)
    rw [sub_fail ha h1 (fails_none hf c (hM c hc))] at hp
    cases hp
  · omega
theorem nodup_le {a : List Int} : ∀ {b : List Int}, a.Nodup → (∀ x ∈ a, x ∈ b) → a.length ≤ b.length := by
  induction a with
  | nil => intro b _ _; exact Nat.zero_le _
  | cons x a ih =>
    intro b h hs
    rw [List.nodup_cons] at h
    have hx := hs x (List.mem_cons_self ..)
    have := ih (b := b.erase x) h.2 (fun y hy => (List.mem_erase_of_ne (fun (e : y = x) => h.1 (by rw [← e]; exact hy))).2 (hs y (List.mem_cons_of_mem _ hy)))
    rw [List.length_erase_of_mem hx] at this
    have := List.length_pos_of_mem hx
    rw [List.length_cons]
    omega
def pV (L : List (List Int)) (l : List Int) : List Int × List Int × Int := propV L (mostN L + 1) l []
theorem prop_order {L M : List (List Int)} {l : List Int} (hM : ∀ c, c ∈ M ↔ c ∈ L) (hl : Good l) :
    ((pV L l).2.2 < 0 ↔ (pV M l).2.2 < 0) ∧ ((pV L l).2.2 < 0 → (∀ x, x ∈ (pV L l).1 ↔ x ∈ (pV M l).1) ∧ (pV L l).1.length = (pV M l).1.length) := by
  have key : ∀ {L M : List (List Int)}, (∀ c, c ∈ M ↔ c ∈ L) → (pV L l).2.2 < 0 → (∀ x ∈ (pV M l).1, x ∈ (pV L l).1) ∧ (pV M l).2.2 < 0 := by
    intro L M hM h
    obtain ⟨e1, e2⟩ := propV_end' L l h
    refine prop_sub (fun c hc => (hM c).1 hc) (prop_good hl _) ?_ e1 e2 _
    obtain ⟨t, ht⟩ := propV_pre L (mostN L + 1) l []
    intro x hx
    rw [ht]; exact List.mem_append_left _ hx
  have hM' : ∀ c, c ∈ L ↔ c ∈ M := fun c => (hM c).symm
  refine ⟨⟨fun h => (key hM h).2, fun h => (key hM' h).2⟩, fun h => ?_⟩
  obtain ⟨k1, k2⟩ := key hM h
  obtain ⟨k3, _⟩ := key hM' k2
  refine ⟨fun x => ⟨k3 x, k1 x⟩, ?_⟩
  have n1 : (pV L l).1.Nodup := (prop_good hl _).nodup
  have n2 : (pV M l).1.Nodup := (prop_good hl _).nodup
  exact Nat.le_antisymm (nodup_le n1 k3) (nodup_le n2 k1)
theorem good_of {l : List Int} {v : Int} (h : assignV l v = 0) : Good l := by
  unfold assignV at h
  split at h
  · cases h
  · split at h
    · cases h
    · rename_i hb
      split at h
      · rename_i hn
        refine ⟨fun x hx => ?_, hn⟩
        have : checkV x v = 0 := by
          by_cases e : checkV x v = 0
          · exact e
          · exact absurd (by rw [badL, List.any_eq_true]; exact ⟨x, hx, by simpa using e⟩) hb
        exact (checkV_ok this).2.2.2.1
      · cases h
theorem taut_holds {c : List Int} (m : List Bool) (h : tautV c = true) : holdsV c m = true := by
  rw [tautV, List.any_eq_true] at h
  obtain ⟨x, hx, hp⟩ := h
  unfold tautP has2V at hp
  simp only [Bool.and_eq_true, decide_eq_true_eq] at hp
  obtain ⟨⟨hv, _⟩, _, hn⟩ := hp
  have e : negV x = -x := by
    obtain ⟨_, h2, h3⟩ := varV_pos hv
    unfold negV; rw [if_pos ⟨h2, h3⟩]
  rw [e, hasV_mem] at hn
  rw [holdsV, List.any_eq_true]
  cases hh : litHolds m x
  · exact ⟨-x, hn, by rw [litHolds_neg hv, hh]; rfl⟩
  · exact ⟨x, hx, hh⟩
theorem opps_all {c : List Int} {m : List Bool} (h : holdsV c m = false) : AllH (oppsV c) m := by
  intro y hy _
  unfold oppsV at hy
  obtain ⟨x, hx, rfl⟩ := List.mem_map.1 hy
  rw [List.mem_filter, decide_eq_true_eq] at hx
  rw [litHolds_neg hx.2]
  rw [holdsV, List.any_eq_false] at h
  simpa using h x hx.1
end Go.Proofs.YtdgflniahoidmaaGreat

/- Layer 7 (units): Next, Closed. -/
namespace Go.Proofs.YtdgflniahoidmaaGreat
open Go.RowKit Go.Maps

theorem look_unit {l c : List Int} (h : unitB l c = true) : lookH l c = false ∧ lookM l c = 1 ∧ lookO l c = unitU l c := by
  cases hh : lookH l c with
  | true => rw [(look_holds hh).2] at h; cases h
  | false =>
    rcases look_open hh with ⟨_, _, hu⟩ | ⟨hM, _, _, ho⟩ | ⟨_, _, hu⟩
    · rw [hu] at h; cases h
    · exact ⟨rfl, hM, ho⟩
    · rw [hu] at h; cases h


end Go.Proofs.YtdgflniahoidmaaGreat

/- Layer 7 (units): Propagate. -/
namespace Go.Proofs.YtdgflniahoidmaaGreat
open Go.RowKit Go.Maps

/-- What Propagate hands back. -/
def RetProp (L : List (List Int)) (l : List Int) (w : World) (e : Ending) (w' : World) : Prop :=
  ∃ v u k, e = .returned (.tuple #[v, u, .int .i64 k]) ∧ OwnI w' w.heap.size v (propV L (mostN L + 1) l []).1 ∧ OwnI w' w.heap.size u (propV L (mostN L + 1) l []).2.1 ∧ k = (propV L (mostN L + 1) l []).2.2 ∧ Ext w w'

theorem prop_fail {L : List (List Int)} {l b : List Int} (h : 0 ≤ failsV l L) : propV L (mostN L + 1) l b = (l, b, failsV l L) := by
  rw [propV, if_pos h]
theorem prop_stop {L : List (List Int)} {l b : List Int} (h : ¬ 0 ≤ failsV l L) (hn : nextU l L < 0) : propV L (mostN L + 1) l b = (l, b, -1) := by
  rw [propV, if_neg h, if_pos hn]
theorem prop_step {L : List (List Int)} {l b : List Int} (h : ¬ 0 ≤ failsV l L) (hn : ¬ nextU l L < 0) : propV L (mostN L + 1) l b = propV L (mostN L + 1) (l ++ [nextS l L]) (b ++ [nextU l L]) := by
  have h1 := open_step hn
  have h2 := openN_most L l
  rw [propV, if_neg h, if_neg hn]
  exact propV_fuel L _ _ _ _ (by omega) (by omega)
theorem next_bd {l : List Int} {L : List (List Int)} (hn : ¬ nextU l L < 0) : -100000 ≤ nextS l L ∧ nextS l L ≤ 100000 := by
  obtain ⟨c, _, hu, hs⟩ := next_mem hn
  rw [hs, unitU, hu, if_pos rfl]
  unfold unitB at hu
  simp only [Bool.and_eq_true, decide_eq_true_eq] at hu
  exact (varV_pos (unit_facts hu.2).1).2


end Go.Proofs.YtdgflniahoidmaaGreat

/- Layer 7 (units): the reference's Propagate. -/
namespace Go.Proofs.YtdgflniahoidmaaGreat
open Go.RowKit Go.Maps

theorem mostN_snoc (L : List (List Int)) (c : List Int) : mostN (L ++ [c]) = mostN L + c.length := by simp [mostN]
theorem mostN_take (L : List (List Int)) (k : Nat) : mostN (L.take k) ≤ mostN L := by
  have : mostN (L.take k ++ L.drop k) = mostN (L.take k) + mostN (L.drop k) := by unfold mostN; rw [List.map_append, List.sum_append]
  rw [List.take_append_drop] at this
  omega


end Go.Proofs.YtdgflniahoidmaaGreat

/- Layer 7 (units): Refutes. -/
namespace Go.Proofs.YtdgflniahoidmaaGreat
open Go.RowKit Go.Maps

def refutesV (L : List (List Int)) (c : List Int) : Bool := tautV c || decide (0 ≤ (propV L (mostN L + 1) (oppsV c) []).2.2)
theorem negV_zero (x : Int) : (varV x = 0 ∧ negV x = 0) ∨ (varV x ≠ 0 ∧ negV x = -x ∧ negV x ≠ 0) := by
  unfold varV negV; (repeat (first | omega | split))


end Go.Proofs.YtdgflniahoidmaaGreat
