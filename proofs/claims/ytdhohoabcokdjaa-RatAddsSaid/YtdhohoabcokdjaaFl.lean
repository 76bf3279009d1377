/- Small whole numbers as the bits of a float64: adding one, comparing with zero, back to an int. -/
import Derived.Test.YtdhohoabcokdjaaBase
import Derived.Laws.ComplexArith
import Derived.Laws.Cover3
set_option maxRecDepth 100000
namespace Go.Proofs.Ytdhohoabcokdjaa
open Go.RowKit

/-- The bits of a whole number: one was added so often. -/
def fl : Nat → Nat
  | 0 => 0
  | n + 1 => (floatBits .add .f64 (fl n) 4607182418800017408).getD 0
def eqFl (x : Nat) : Bool := FloatKind.f64.format.order x 0 == some .eq
def okFl (n x : Nat) : Bool := (floatBits .add .f64 x 4607182418800017408).isSome && (floatBits .add .f64 x 0 == some x) && (eqFl x == (n == 0)) && (floatToIntVal .f64 x .i64 == some (n : Int))
def chkFl : Nat → Nat → Nat → Bool
  | 0, _, _ => true
  | k + 1, n, x => okFl n x && chkFl k (n + 1) ((floatBits .add .f64 x 4607182418800017408).getD 0)
set_option maxRecDepth 100000 in
theorem chkFl_all : chkFl 301 0 0 = true := by decide +kernel
theorem chkFl_at : ∀ (k n j : Nat), chkFl k n (fl n) = true → j < k → okFl (n + j) (fl (n + j)) = true
  | 0, _, _, _, h => by omega
  | k + 1, n, j, h, hj => by
    unfold chkFl at h
    rw [Bool.and_eq_true] at h
    cases j with
    | zero => exact h.1
    | succ j =>
      have := chkFl_at k (n + 1) j h.2 (by omega)
      rw [show n + (j + 1) = n + 1 + j by omega]
      exact this
theorem okFl_all {n : Nat} (h : n ≤ 300) : okFl n (fl n) = true := by
  have := chkFl_at 301 0 n chkFl_all (by omega)
  rwa [Nat.zero_add] at this
theorem fl_facts {n : Nat} (h : n ≤ 300) : floatBits .add .f64 (fl n) 4607182418800017408 = some (fl (n + 1)) ∧ floatBits .add .f64 (fl n) 0 = some (fl n) ∧ (FloatKind.f64.format.order (fl n) 0 == some .eq) = decide (n = 0) ∧ floatToIntVal .f64 (fl n) .i64 = some (n : Int) := by
  have := okFl_all h
  unfold okFl at this
  simp only [Bool.and_eq_true, beq_iff_eq] at this
  obtain ⟨⟨⟨h1, h2⟩, h3⟩, h4⟩ := this
  refine ⟨?_, h2, ?_, h4⟩
  · obtain ⟨r, hr⟩ := Option.isSome_iff_exists.1 h1
    rw [hr, fl, hr]; rfl
  · have e : eqFl (fl n) = (FloatKind.f64.format.order (fl n) 0 == some .eq) := rfl
    rw [← e, h3]
    by_cases h0 : n = 0 <;> simp [h0]
theorem fl_re {P : Program} {p q : Nat} (hp : p ≤ 300) (hq : q ≤ 300) (t : TypeId) (w : World) : (binOp .add t (.complex .f64 (fl p) (fl q)) (.complex .f64 4607182418800017408 0)).run P w = .ok (.complex .f64 (fl (p + 1)) (fl q)) w := by
  refine run_complex_sum w .add (Or.inl rfl) t .f64 _ _ _ _ _ _ ?_
  unfold cSumBits
  rw [(fl_facts hp).1, (fl_facts hq).2.1]; rfl
theorem fl_im {P : Program} {p q : Nat} (hp : p ≤ 300) (hq : q ≤ 300) (t : TypeId) (w : World) : (binOp .add t (.complex .f64 (fl p) (fl q)) (.complex .f64 0 4607182418800017408)).run P w = .ok (.complex .f64 (fl p) (fl (q + 1))) w := by
  refine run_complex_sum w .add (Or.inl rfl) t .f64 _ _ _ _ _ _ ?_
  unfold cSumBits
  rw [(fl_facts hp).2.1, (fl_facts hq).1]; rfl
end Go.Proofs.Ytdhohoabcokdjaa
