/- Layer 12 (arena), in plain Lean: what is squeezed. -/
import Derived.Test.YtbkimfefbdfkbaaAr8
set_option maxRecDepth 100000
namespace Go.Proofs.Ytbkimfefbdfkbaa
open Go.RowKit

def liveR (rows : List ARow) : List ARow := rows.filter fun r => r.live
theorem flat_pos (rows : List ARow) (r : ARow) (p : Int) : flatA ({ r with pos := p } :: rows) = encR r ++ flatA rows := by simp [flatA, encR, sideA]
theorem flat_cons (rows : List ARow) (r : ARow) : flatA (r :: rows) = encR r ++ flatA rows := by simp [flatA]
theorem pack_flat : ∀ (rows : List ARow) (p : Int), flatA (packA rows p) = flatA (liveR rows)
  | [], _ => rfl
  | r :: l, p => by
    have ih := pack_flat l
    unfold packA liveR
    unfold liveR at ih
    by_cases h : r.live = true
    · rw [if_pos h, flat_pos, List.filter_cons_of_pos (by simp [h]), flat_cons, ih]
    · rw [if_neg h, List.filter_cons_of_neg (by simp [h]), ih]
theorem pack_get : ∀ (rows : List ARow) (p : Int) (q : Nat), (packA rows p)[q]? = (liveR rows)[q]?.map fun r => { r with pos := p + ((flatA ((liveR rows).take q)).length : Nat) }
  | [], _, _ => rfl
  | r :: l, p, q => by
    have ih := pack_get l
    unfold packA liveR
    unfold liveR at ih
    by_cases h : r.live = true
    · rw [if_pos h, List.filter_cons_of_pos (by simp [h])]
      cases q with
      | zero => simp [flatA]
      | succ q =>
        rw [List.getElem?_cons_succ, List.getElem?_cons_succ, ih, List.take_succ_cons, flat_cons, List.length_append, encR_len]
        congr 1
        funext a
        have : p + 3 + (r.lits.length : Int) + ((flatA ((l.filter fun r => r.live).take q)).length : Nat) = p + ((r.lits.length + 3 + (flatA ((l.filter fun r => r.live).take q)).length : Nat) : Int) := by omega
        rw [this]
    · rw [if_neg h, List.filter_cons_of_neg (by simp [h]), ih]
theorem pack_len (rows : List ARow) (p : Int) : (packA rows p).length = (liveR rows).length := by
  apply Nat.le_antisymm
  · rcases Nat.lt_or_ge (liveR rows).length (packA rows p).length with h | h
    · have h1 := pack_get rows p (liveR rows).length
      rw [List.getElem?_eq_getElem h, List.getElem?_eq_none (Nat.le_refl _)] at h1
      cases h1
    · exact h
  · rcases Nat.lt_or_ge (packA rows p).length (liveR rows).length with h | h
    · have h1 := pack_get rows p (packA rows p).length
      rw [List.getElem?_eq_none (Nat.le_refl _), List.getElem?_eq_getElem h] at h1
      cases h1
    · exact h
theorem pack_take (rows : List ARow) (p : Int) (q : Nat) : flatA ((packA rows p).take q) = flatA ((liveR rows).take q) := by
  induction q with
  | zero => rfl
  | succ q ih =>
    have h := pack_get rows p q
    cases hl : (liveR rows)[q]? with
    | none =>
      rw [hl] at h
      have h1 := List.getElem?_eq_none_iff.1 hl
      have h2 := List.getElem?_eq_none_iff.1 h
      rw [List.take_of_length_le (by omega), List.take_of_length_le (by omega)]
      exact pack_flat rows p
    | some r =>
      rw [hl] at h
      rw [take_succ_of hl, take_succ_of h, flatA_snoc, flatA_snoc, ih]; rfl
theorem comp_inv {S : ASt} (h : AInv S) : AInv (compS S) := by
  refine ⟨fun i r hr => ?_, rfl, fun r hr => ?_⟩
  · have hr' : (packA S.rows 0)[i]? = some r := hr
    rw [pack_get] at hr'
    obtain ⟨a, _, rfl⟩ := Option.map_eq_some_iff.1 hr'
    show (0 : Int) + _ = (((flatA ((packA S.rows 0).take i)).length : Nat) : Int)
    rw [pack_take]; omega
  · obtain ⟨i, hi⟩ := List.mem_iff_getElem?.1 (show r ∈ packA S.rows 0 from hr)
    rw [pack_get] at hi
    obtain ⟨a, ha, rfl⟩ := Option.map_eq_some_iff.1 hi
    exact h.ok a (List.mem_filter.1 (List.mem_of_getElem? ha)).1
/-- Where a row that is there stood. -/
theorem live_at : ∀ {rows : List ARow} {q : Nat} {r : ARow}, (liveR rows)[q]? = some r → ∃ i : Nat, rows[i]? = some r ∧ (liveR rows).take q = liveR (rows.take i) ∧ r.live = true
  | [], q, r, h => by simp [liveR] at h
  | a :: l, q, r, h => by
    unfold liveR at h
    cases ha : a.live with
    | true =>
      rw [List.filter_cons_of_pos (by simp [ha])] at h
      cases q with
      | zero =>
        have : a = r := by simpa using h
        subst this
        exact ⟨0, rfl, rfl, ha⟩
      | succ q =>
        obtain ⟨i, h1, h2, h3⟩ := live_at (rows := l) (q := q) (by simpa [liveR] using h)
        refine ⟨i + 1, by simpa using h1, ?_, h3⟩
        unfold liveR at h2 ⊢
        rw [List.filter_cons_of_pos (by simp [ha]), List.take_succ_cons, List.take_succ_cons, List.filter_cons_of_pos (by simp [ha]), h2]
    | false =>
      rw [List.filter_cons_of_neg (by simp [ha])] at h
      obtain ⟨i, h1, h2, h3⟩ := live_at (rows := l) (q := q) h
      refine ⟨i + 1, by simpa using h1, ?_, h3⟩
      unfold liveR at h2 ⊢
      rw [List.filter_cons_of_neg (by simp [ha]), List.take_succ_cons, List.filter_cons_of_neg (by simp [ha]), h2]
theorem live_flat_le (rows : List ARow) : (flatA (liveR rows)).length ≤ (flatA rows).length := by
  induction rows with
  | nil => exact Nat.le_refl _
  | cons r l ih =>
    unfold liveR at ih ⊢
    rw [flat_cons, List.length_append]
    cases h : r.live with
    | true => rw [List.filter_cons_of_pos (by simp [h]), flat_cons, List.length_append]; omega
    | false => rw [List.filter_cons_of_neg (by simp [h])]; omega
theorem head_app {rows : List ARow} {r : ARow} (hn : ∀ a ∈ rows, a.pos ≠ r.pos) (hl : r.live = true) (z : Int) : headA (rows ++ [r]) z = if z = r.pos then r.id else headA rows z := by
  unfold headA
  rw [List.find?_append]
  by_cases e : z = r.pos
  · have h1 : rows.find? (atP z) = none := by
      rw [List.find?_eq_none]
      intro a ha
      simp [atP, e, hn a ha]
    have h2 : [r].find? (atP z) = some r := by simp [atP, hl, e]
    rw [if_pos e, h1, h2]; rfl
  · have h2 : [r].find? (atP z) = none := by simp [atP, Ne.symm e]
    rw [if_neg e, h2, Option.or_none]
/-- The numbers, when the first q rows that are there were moved. -/
def sqz (rows : List ARow) (q : Nat) : List Int := flatA ((liveR rows).take q) ++ (flatA rows).drop (flatA ((liveR rows).take q)).length
theorem live_take_le (rows : List ARow) (q : Nat) : (flatA ((liveR rows).take q)).length ≤ (flatA rows).length := by
  have h1 := live_flat_le rows
  have e : flatA (liveR rows) = flatA ((liveR rows).take q) ++ flatA ((liveR rows).drop q) := by rw [← flatA_app, List.take_append_drop]
  rw [e, List.length_append] at h1
  omega
theorem sqz_len (rows : List ARow) (q : Nat) : (sqz rows q).length = (flatA rows).length := by
  unfold sqz
  have := live_take_le rows q
  rw [List.length_append, List.length_drop]; omega
theorem sqz_zero (rows : List ARow) : sqz rows 0 = flatA rows := by simp [sqz, flatA]
theorem sqz_all (rows : List ARow) : (sqz rows (liveR rows).length).take (flatA (liveR rows)).length = flatA (liveR rows) := by
  unfold sqz
  rw [List.take_of_length_le (Nat.le_refl _)]
  simp
theorem sqz_succ {rows : List ARow} {q : Nat} {r : ARow} (h : (liveR rows)[q]? = some r) : sqz rows (q + 1) = (sqz rows q).take (flatA ((liveR rows).take q)).length ++ (encR r ++ (sqz rows q).drop ((flatA ((liveR rows).take q)).length + (encR r).length)) := by
  unfold sqz
  rw [take_succ_of h, flatA_snoc, List.length_append, List.take_left, List.append_assoc, List.drop_append, List.drop_drop]
  have e0 : List.drop ((flatA ((liveR rows).take q)).length + (encR r).length) (flatA ((liveR rows).take q)) = [] := List.drop_of_length_le (by omega)
  rw [e0, List.nil_append, Nat.add_sub_cancel_left]
/-- A row that has not been moved yet reads as it did. -/
theorem sqz_at {rows : List ARow} {q i k : Nat} {r : ARow} {y : Int} (hi : rows[i]? = some r) (ht : (liveR rows).take q = liveR (rows.take i)) (hk : (encR r)[k]? = some y) :
    (flatA ((liveR rows).take q)).length ≤ (flatA (rows.take i)).length ∧ (sqz rows q)[(flatA (rows.take i)).length + k]? = some y := by
  have h1 : (flatA ((liveR rows).take q)).length ≤ (flatA (rows.take i)).length := by rw [ht]; exact live_flat_le _
  refine ⟨h1, ?_⟩
  unfold sqz
  rw [List.getElem?_append_right (by omega), List.getElem?_drop]
  have e : (flatA ((liveR rows).take q)).length + ((flatA (rows.take i)).length + k - (flatA ((liveR rows).take q)).length) = (flatA (rows.take i)).length + k := by omega
  rw [e, arow_at hi (List.getElem?_eq_some_iff.1 hk).1]
  exact hk
end Go.Proofs.Ytbkimfefbdfkbaa
