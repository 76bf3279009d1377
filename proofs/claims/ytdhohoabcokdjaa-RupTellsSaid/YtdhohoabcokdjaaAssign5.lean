/- Layer 3 (assign): are literals an assignment? -/
import Derived.Test.YtdhohoabcokdjaaAssign1
import Derived.BigQuiet
set_option maxRecDepth 100000
namespace Go.Proofs.Ytdhohoabcokdjaa
open Go.RowKit Go.Maps

/-- Is a number there that is no literal of v variables? -/
def badL (l : List Int) (v : Int) : Bool := l.any fun x => decide (checkV x v ≠ 0)
theorem badL_snoc {l : List Int} {x v : Int} (h : badL l v = false) (hx : checkV x v = 0) : badL (l ++ [x]) v = false := by
  unfold badL at h ⊢; rw [List.any_append, h]; simp [hx]
theorem badL_hit {l : List Int} {k : Nat} {x v : Int} (h : l[k]? = some x) (hx : checkV x v ≠ 0) : badL l v = true := by
  rw [badL, List.any_eq_true]; exact ⟨x, List.mem_iff_getElem?.2 ⟨k, h⟩, by simpa using hx⟩
/-- Are literals an assignment? -/
def assignV (l : List Int) (v : Int) : Int := if v < 0 ∨ 100000 < v then 2 else if badL l v then 10 else if (l.map varV).Nodup then 0 else 21
theorem assignV_arg {l : List Int} {v : Int} (h : v < 0 ∨ 100000 < v) : assignV l v = 2 := by rw [assignV, if_pos h]
theorem assignV_lit {l : List Int} {v : Int} (h : ¬ (v < 0 ∨ 100000 < v)) (hb : badL l v = true) : assignV l v = 10 := by rw [assignV, if_neg h, if_pos hb]
theorem assignV_ok {l : List Int} {v : Int} (h : ¬ (v < 0 ∨ 100000 < v)) (hb : badL l v = false) (hn : (l.map varV).Nodup) : assignV l v = 0 := by rw [assignV, if_neg h, if_neg (by simp [hb]), if_pos hn]
theorem assignV_dup {l : List Int} {v : Int} (h : ¬ (v < 0 ∨ 100000 < v)) (hb : badL l v = false) (hn : ¬ (l.map varV).Nodup) : assignV l v = 21 := by rw [assignV, if_neg h, if_neg (by simp [hb]), if_neg hn]
theorem checkV_ok {x v : Int} (h : checkV x v = 0) : x ≠ 0 ∧ -100000 ≤ x ∧ x ≤ 100000 ∧ varV x ≠ 0 ∧ (varV x = x ∨ varV x = -x) := by
  revert h; unfold checkV varV; (repeat (first | omega | split))
theorem varV_abs {x y : Int} (hx : varV x ≠ 0) : varV y = varV x ↔ (y = x ∨ y = -x) := by
  revert hx; unfold varV; (repeat (first | omega | split))
theorem nodup_snoc {xs : List Int} {y : Int} : (xs ++ [y]).Nodup ↔ xs.Nodup ∧ y ∉ xs := by
  rw [List.nodup_append]; simp
  intro _; constructor
  · intro h hy; exact h y hy rfl
  · intro h a ha e; exact h (e ▸ ha)
theorem dup_count {xs : List Int} {y m : Int} (h : m ≤ 1 ↔ xs.Nodup) : max m (cntV (xs ++ [y]) y) ≤ 1 ↔ (xs ++ [y]).Nodup := by
  rw [nodup_snoc, ← h]
  have e : cntV (xs ++ [y]) y = cntV xs y + 1 := by unfold cntV; simp [List.count_append]
  have hb := (cntV_bd xs y).1
  have hm : cntV xs y = 0 ↔ y ∉ xs := by unfold cntV; rw [← List.count_eq_zero]; omega
  rw [e, ← hm]
  omega


end Go.Proofs.Ytdhohoabcokdjaa
