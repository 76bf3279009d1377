/- Layer 3 (assign): the reference's Check. -/
import Derived.Test.YtdhohoabcokdjaaAssign5
set_option maxRecDepth 100000
namespace Go.Proofs.Ytdhohoabcokdjaa
open Go.RowKit Go.Maps

theorem IntSl.take {w : World} {A : Option Addr} {n : Nat} {xs : List Int} (h : IntSl w A n xs) {k : Nat} (hk : k ≤ n) : IntSl w A k (xs.take k) := by
  refine ⟨by rw [List.length_take, h.1]; omega, by have := h.2.1; omega, fun x hx => h.2.2.1 x (List.mem_of_mem_take hx), fun hn => ?_⟩
  obtain ⟨ad, e, hc⟩ := h.2.2.2 (by omega)
  refine ⟨ad, e, fun j x hj => ?_⟩
  rw [List.getElem?_take] at hj
  split at hj
  · exact hc j x hj
  · cases hj

theorem hasV_mem {xs : List Int} {x : Int} : hasV xs x = true ↔ x ∈ xs := by
  rw [hasV, List.any_eq_true]; constructor
  · rintro ⟨y, hy, e⟩; obtain rfl : y = x := by simpa using e
    exact hy
  · intro h; exact ⟨x, h, by simp⟩
theorem mem_vars {xs : List Int} {x v : Int} (h : checkV x v = 0) : varV x ∈ xs.map varV ↔ hasV xs x = true ∨ hasV xs (-x) = true := by
  have hx := (checkV_ok h).2.2.2.1
  rw [hasV_mem, hasV_mem, List.mem_map]
  constructor
  · rintro ⟨y, hy, e⟩
    rcases (varV_abs hx).1 e with rfl | rfl
    · exact Or.inl hy
    · exact Or.inr hy
  · rintro (hy | hy)
    · exact ⟨x, hy, rfl⟩
    · exact ⟨-x, hy, (varV_abs hx).2 (Or.inr rfl)⟩
theorem nodup_take {xs : List Int} {k : Nat} (h : ¬ (xs.take k).Nodup) : ¬ xs.Nodup := fun e => h ((List.take_sublist k xs).nodup e)


end Go.Proofs.Ytdhohoabcokdjaa
