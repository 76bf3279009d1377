/- Layer 22 (brute), in plain Lean: the models of a formula with more clauses of one literal each. -/
import Derived.Test.YtdiapihfjmbgoaaLawBruteCountsC
import Derived.Test.YtdiapihfjmbgoaaCnf4
set_option maxRecDepth 100000
namespace Go.Proofs.Ytdiapihfjmbgoaa
open Go.RowKit

theorem checkV_neg {l v : Int} (h : checkV l v = 0) : checkV (-l) v = 0 := by
  revert h; unfold checkV; (repeat (first | omega | split))
theorem checkV_var {l v : Int} (h : checkV l v = 0) : 0 ≤ v ∧ v ≤ 100000 ∧ l ≠ 0 ∧ varV l ≠ 0 ∧ varV l ≤ v ∧ -v ≤ l ∧ l ≤ v := by
  have hl := checkV_lit h
  have hv : 0 ≤ v ∧ v ≤ 100000 := by revert h; unfold checkV; (repeat (first | omega | split))
  refine ⟨hv.1, hv.2, hl.1, ?_, ?_, hl.2⟩ <;> unfold varV <;> (repeat (first | omega | split))
theorem one_clause {l v : Int} (h : checkV l v = 0) : cCheckV [l] v = 0 ∧ tautV [l] = false ∧ mostV [l] ≤ v := by
  obtain ⟨h1, h2, h3, h4, h5, _⟩ := checkV_var h
  refine ⟨?_, ?_, ?_⟩
  · unfold cCheckV
    rw [if_neg (by omega), if_neg (by simp)]
    have hb : badC [l] v = none := by unfold badC; simp [h]
    rw [hb]
    have hs : seenL [l] = [l] := by unfold seenL; simp [h4]
    have hd : dedL [l] = [l] := by simp [dedL, hasV]
    rw [hs, hd]; rfl
  · unfold tautV
    rw [List.any_eq_false]
    intro x hx
    simp at hx
    subst hx
    have hneg : negV x ≠ x := by unfold negV varV at *; (repeat (first | omega | split))
    simp [tautP, has2V, hasV, Ne.symm hneg]
  · simp [mostV]; omega
theorem chkV_app {v : Int} {c : List Int} (hc : cCheckV c v = 0) (ht : tautV c = false) : ∀ (L : List (List Int)) (i : Nat), (chkV v L i).2 = 0 → (chkV v (L ++ [c]) i).2 = 0
  | [], i, _ => by simp [chkV, hc, ht]
  | d :: L, i, h => by
    unfold chkV at h
    show (chkV v (d :: (L ++ [c])) i).2 = 0
    unfold chkV
    by_cases h1 : cCheckV d v ≠ 0
    · rw [if_pos h1] at h; exact absurd h h1
    · rw [if_neg h1] at h ⊢
      cases hd : tautV d with
      | true => rw [hd, if_pos rfl] at h; have h' : (11 : Int) = 0 := h; omega
      | false =>
        rw [hd, if_neg (by simp)] at h
        rw [if_neg (by simp)]
        exact chkV_app hc ht L (i + 1) h
theorem bCheck_app {v l : Int} {L : List (List Int)} (h : bCheckV v L = 0) (hl : checkV l v = 0) (hn : L.length < 1000000) : bCheckV v (L ++ [[l]]) = 0 := by
  obtain ⟨h1, h2, h3⟩ := bCheck_ok h
  obtain ⟨c1, c2, _⟩ := one_clause hl
  have h4 : (fCheckV v (L ++ [[l]])).2 = 0 := by
    unfold fCheckV at h3 ⊢
    rw [if_neg (by omega), if_neg (by omega)] at h3
    rw [if_neg (by omega), if_neg (by rw [List.length_append]; simp; omega)]
    exact chkV_app c1 c2 L 0 h3
  unfold bCheckV
  rw [if_neg (by simp [h4]), if_neg (by omega)]
theorem sets_app {v l : Int} {L : List (List Int)} (h : bCheckV v L = 0) (hl : checkV l v = 0) (hn : L.length < 1000000) : setsV v (L ++ [[l]]) = (setsV v L).filter fun m => litHolds (bitsV m v.toNat) l := by
  unfold setsV
  rw [if_pos h, if_pos (bCheck_app h hl hn), List.filter_filter]
  apply List.filter_congr
  intro m _
  rw [Bool.eq_iff_iff, Bool.and_eq_true, decide_eq_true_eq, decide_eq_true_eq, firstV_neg, firstV_neg]
  constructor
  · intro h1
    refine ⟨?_, fun c hc => h1 c (List.mem_append_left _ hc)⟩
    have := h1 [l] (by simp)
    simpa [holdsV] using this
  · rintro ⟨h1, h2⟩ c hc
    rcases List.mem_append.1 hc with hc | hc
    · exact h2 c hc
    · simp at hc; subst hc; simpa [holdsV] using h1
theorem lit_neg {v l : Int} {m : Nat} (hv : v ≤ 16) (hl : checkV l v = 0) : litHolds (bitsV m v.toNat) (-l) = !litHolds (bitsV m v.toNat) l := by
  obtain ⟨h1, _, h3, _, _, h6, h7⟩ := checkV_var hl
  rw [lit_bits (n := v.toNat) (by omega) ⟨by omega, by omega, by omega⟩, lit_bits (n := v.toNat) (by omega) ⟨by omega, by omega, by omega⟩]
  by_cases hp : 0 < l
  · rw [if_neg (by omega), if_pos hp, show - -l - 1 = l - 1 by omega]
  · rw [if_pos (by omega), if_neg hp, Bool.not_not]
theorem split_len {α : Type} (l : List α) (p : α → Bool) : (l.filter p).length + (l.filter fun x => !p x).length = l.length := by
  induction l with
  | nil => rfl
  | cons x l ih =>
    cases hp : p x <;> simp [hp] <;> omega
theorem splits {v l : Int} {L : List (List Int)} (h : bCheckV v L = 0) (hl : checkV l v = 0) (hn : L.length < 1000000) : (setsV v (L ++ [[l]])).length + (setsV v (L ++ [[-l]])).length = (setsV v L).length := by
  rw [sets_app h hl hn, sets_app h (checkV_neg hl) hn]
  have e : (fun m => litHolds (bitsV m v.toNat) (-l)) = fun m => !litHolds (bitsV m v.toNat) l := funext fun m => lit_neg (bCheck_ok h).2.1 hl
  rw [e]
  exact split_len _ _
/-- The opposites, each a clause. -/
def oppC (c : List Int) : List (List Int) := c.map fun l => [-l]
theorem oppC_snoc (c : List Int) (l : Int) : oppC (c ++ [l]) = oppC c ++ [[-l]] := by simp [oppC]
theorem sets_opp {v : Int} {L : List (List Int)} (h : bCheckV v L = 0) : ∀ (c : List Int), (∀ l ∈ c, checkV l v = 0) → L.length + c.length < 1000000 →
    bCheckV v (L ++ oppC c) = 0 ∧ setsV v (L ++ oppC c) = (setsV v L).filter fun m => !holdsV c (bitsV m v.toNat) := by
  intro c
  refine foldl_snoc_ind (P := fun c => (∀ l ∈ c, checkV l v = 0) → L.length + c.length < 1000000 → bCheckV v (L ++ oppC c) = 0 ∧ setsV v (L ++ oppC c) = (setsV v L).filter fun m => !holdsV c (bitsV m v.toNat)) ?_ ?_ c
  · intro _ _
    exact ⟨by simpa [oppC] using h, by simp only [oppC, holdsV, List.map_nil, List.append_nil, List.any_nil, Bool.not_false]; exact (List.filter_eq_self.2 (fun _ _ => rfl)).symm⟩
  · intro xs x ih hc hn
    obtain ⟨i1, i2⟩ := ih (fun l hl => hc l (List.mem_append_left _ hl)) (by simp at hn; omega)
    have hx := hc x (by simp)
    have hlen : (L ++ oppC xs).length < 1000000 := by simp [oppC] at hn ⊢; omega
    rw [oppC_snoc, ← List.append_assoc]
    refine ⟨bCheck_app i1 (checkV_neg hx) hlen, ?_⟩
    rw [sets_app i1 (checkV_neg hx) hlen, i2, List.filter_filter]
    apply List.filter_congr
    intro m _
    rw [lit_neg (bCheck_ok h).2.1 hx]
    unfold holdsV
    rw [List.any_append]
    simp [Bool.and_comm]
theorem follows_opp {v : Int} {L : List (List Int)} {c : List Int} (h : bCheckV v L = 0) (hc : cCheckV c v = 0) (hn : L.length + c.length < 1000000) : bFollowsV v L c = (decide ((setsV v (L ++ oppC c)).length = 0), 0) := by
  unfold bFollowsV
  rw [if_neg (by simp [h]), if_neg (by simp [hc])]
  congr 1
  rw [(sets_opp h c (cCheckV_ok hc).2.2 hn).2, Bool.eq_iff_iff, List.all_eq_true, decide_eq_true_eq, List.length_eq_zero_iff, List.filter_eq_nil_iff]
  constructor
  · intro h1 m hm; simp [h1 m hm]
  · intro h1 m hm; have := h1 m hm; simpa using this
theorem with_one {v l : Int} (hl : checkV l v = 0) : withV v [[l]] = v := by
  have := (one_clause hl).2.2
  show max v (mostV [l]) = v
  omega
end Go.Proofs.Ytdiapihfjmbgoaa
