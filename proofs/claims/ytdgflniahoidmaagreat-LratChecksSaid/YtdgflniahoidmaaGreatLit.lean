/- Plain functions of layer 1 (lit), and the contracts of its functions that take numbers, and of its reference's. Conditions: none but those that each theorem bears. -/
import Derived.Test.YtdgflniahoidmaaGreatBase
set_option maxRecDepth 100000
namespace Go.Proofs.YtdgflniahoidmaaGreat
open Go.RowKit

def inV (n v : Int) : Bool := n != 0 && decide (-v ≤ n) && decide (n ≤ v)
def isV (n : Int) : Bool := n != 0 && decide (-100000 ≤ n) && decide (n ≤ 100000)
def checkV (l v : Int) : Int := if v < 0 ∨ 100000 < v then 2 else if l ≠ 0 ∧ -v ≤ l ∧ l ≤ v then 0 else 10
def varV (l : Int) : Int := if l < 0 then (if -100000 ≤ l then -l else 0) else if l ≤ 100000 then l else 0
def negV (l : Int) : Int := if -100000 ≤ l ∧ l ≤ 100000 then -l else 0
def makeV (v : Int) (t : Bool) : Int := if v < 1 ∨ 100000 < v then 0 else if t then v else -v
def makeE (v : Int) : Int := if v < 1 ∨ 100000 < v then 10 else 0
def indexV (l : Int) : Int := if 0 < l ∧ l ≤ 100000 then 2 * l - 2 else if l < 0 ∧ -100000 ≤ l then -2 * l - 1 else -1
def fromV (i : Int) : Int := if i < 0 ∨ 200000 ≤ i then 0 else if i % 2 = 0 then i / 2 + 1 else -(i / 2 + 1)
def sideV (l : Int) : Bool := decide (0 < l) && decide (l ≤ 100000)

theorem isV_t {n : Int} (h : isV n = true) : n ≠ 0 ∧ -100000 ≤ n ∧ n ≤ 100000 := by simpa [isV, and_assoc] using h
theorem isV_f {n : Int} (h : isV n = false) : n = 0 ∨ n < -100000 ∨ 100000 < n := by
  have h' : ¬ (isV n = true) := by simp [h]
  simp [isV] at h'
  omega
theorem inV_t {n v : Int} (h : inV n v = true) : n ≠ 0 ∧ -v ≤ n ∧ n ≤ v := by simpa [inV, and_assoc] using h
theorem inV_f {n v : Int} (h : inV n v = false) : n = 0 ∨ n < -v ∨ v < n := by
  have h' : ¬ (inV n v = true) := by simp [h]
  simp [inV] at h'
  omega

theorem in_c (n v : Int) (h0 : 0 ≤ v) (h1 : v ≤ 100000) (w : World) :
    Calls Tryz.prog 84 #[.int .i64 n, .int .i64 v] w fun e w' => e = .returned (.bool (inV n v)) ∧ w = w' := by
  go_enter Tryz.func84, Tryz.ntmps84
  go_wp2
  all_goals
    go_ret
    refine ⟨?_, rfl⟩
    simp [inV, *] <;> omega

theorem is_c (n : Int) (w : World) :
    Calls Tryz.prog 107 #[.int .i64 n] w fun e w' => e = .returned (.bool (isV n)) ∧ w = w' := by
  go_enter Tryz.func107, Tryz.ntmps107
  go_wp2_with (go_at_call 84; refine (in_c n 100000 (by decide) (by decide) _).mono ?_; rintro e w' ⟨rfl, rfl⟩)
  go_ret
  exact ⟨rfl, rfl⟩

theorem litCheck_c (l v : Int) (w : World) :
    Calls Tryz.prog 58 #[.int .i64 l, .int .i64 v] w fun e w' => e = .returned (.int .i64 (checkV l v)) ∧ w = w' := by
  by_cases h : v < 0 ∨ 100000 < v
  · go_enter Tryz.func58, Tryz.ntmps58
    go_wp2
    all_goals
      go_ret
      exact ⟨ret_int (by rw [checkV, if_pos (by omega)]), rfl⟩
  · have h0 : 0 ≤ v := by omega
    have h1 : v ≤ 100000 := by omega
    have H := Lib.hid h
    clear h
    cases hi : inV l v
    · have hb := Lib.hid (inV_f hi)
      go_enter Tryz.func58, Tryz.ntmps58
      go_wp2_with (go_at_call 84; refine (in_c l v h0 h1 _).mono ?_; rintro e w' ⟨rfl, rfl⟩)
      go_ret
      have := hb.out
      exact ⟨ret_int (by rw [checkV, if_neg H.out, if_neg (by omega)]), rfl⟩
    · have hb := Lib.hid (inV_t hi)
      go_enter Tryz.func58, Tryz.ntmps58
      go_wp2_with (go_at_call 84; refine (in_c l v h0 h1 _).mono ?_; rintro e w' ⟨rfl, rfl⟩)
      go_ret
      have := hb.out
      exact ⟨ret_int (by rw [checkV, if_neg H.out, if_pos (by omega)]), rfl⟩

theorem var_c (l : Int) (w : World) :
    Calls Tryz.prog 85 #[.int .i64 l] w fun e w' => e = .returned (.int .i64 (varV l)) ∧ w = w' := by
  cases h : isV l
  · have hb := Lib.hid (isV_f h)
    go_enter Tryz.func85, Tryz.ntmps85
    go_wp2_with (go_at_call 107; refine (is_c l _).mono ?_; rintro e w' ⟨rfl, rfl⟩)
    go_ret
    have := hb.out
    exact ⟨ret_int (by unfold varV; split <;> (try split) <;> omega), rfl⟩
  · obtain ⟨_, h1, h2⟩ := isV_t h
    go_enter Tryz.func85, Tryz.ntmps85
    go_wp2_with (go_at_call 107; refine (is_c l _).mono ?_; rintro e w' ⟨rfl, rfl⟩)
    all_goals
      go_ret
      exact ⟨ret_int (by unfold varV; split <;> (try split) <;> omega), rfl⟩

theorem neg_c (l : Int) (w : World) :
    Calls Tryz.prog 108 #[.int .i64 l] w fun e w' => e = .returned (.int .i64 (negV l)) ∧ w = w' := by
  cases h : isV l
  · have hb := Lib.hid (isV_f h)
    go_enter Tryz.func108, Tryz.ntmps108
    go_wp2_with (go_at_call 107; refine (is_c l _).mono ?_; rintro e w' ⟨rfl, rfl⟩)
    go_ret
    have := hb.out
    exact ⟨ret_int (by unfold negV; split <;> omega), rfl⟩
  · obtain ⟨_, h1, h2⟩ := isV_t h
    go_enter Tryz.func108, Tryz.ntmps108
    go_wp2_with (go_at_call 107; refine (is_c l _).mono ?_; rintro e w' ⟨rfl, rfl⟩)
    go_ret
    exact ⟨ret_int (by unfold negV; split <;> omega), rfl⟩

/-! ### the reference -/
theorem rSplit_c (l : Int) (w : World) :
    Calls Tryz.prog 75 #[.int .i64 l] w fun e w' => e = .returned (.tuple #[.int .i64 (varV l), .bool (sideV l)]) ∧ w = w' := by
  by_cases h0 : 0 < l
  · by_cases h1 : l ≤ 100000
    · go_enter Tryz.func75, Tryz.ntmps75
      go_wp2
      go_ret2
      exact ⟨ret_ib (by unfold varV; split <;> (try split) <;> omega) (by simp [sideV, h0, h1]), rfl⟩
    · go_enter Tryz.func75, Tryz.ntmps75
      go_wp2
      go_ret2
      exact ⟨ret_ib (by unfold varV; split <;> (try split) <;> omega) (by simp [sideV, h1]), rfl⟩
  · by_cases h1 : l < 0
    · by_cases h2 : -100000 ≤ l
      all_goals
        go_enter Tryz.func75, Tryz.ntmps75
        go_wp2
        go_ret2
        exact ⟨ret_ib (by unfold varV; split <;> (try split) <;> omega) (by simp [sideV]; omega), rfl⟩
    · obtain rfl : l = 0 := by omega
      go_enter Tryz.func75, Tryz.ntmps75
      go_wp2
      go_ret2
      exact ⟨ret_ib (by decide) (by decide), rfl⟩

theorem rJoin_c (v : Int) (t : Bool) (w : World) :
    Calls Tryz.prog 76 #[.int .i64 v, .bool t] w fun e w' => e = .returned (.int .i64 (makeV v t)) ∧ w = w' := by
  by_cases h : v < 1 ∨ 100000 < v
  · go_enter Tryz.func76, Tryz.ntmps76
    go_wp2
    all_goals
      go_ret
      exact ⟨ret_int (by rw [makeV, if_pos (by omega)]), rfl⟩
  · have h1 : 1 ≤ v := by omega
    have h2 : v ≤ 100000 := by omega
    clear h
    cases t
    all_goals
      go_enter Tryz.func76, Tryz.ntmps76
      go_wp2
      go_ret
      exact ⟨ret_int (by rw [makeV, if_neg (by omega)]; rfl), rfl⟩

theorem rCheck_c (l v : Int) (w : World) :
    Calls Tryz.prog 62 #[.int .i64 l, .int .i64 v] w fun e w' => e = .returned (.int .i64 (checkV l v)) ∧ w = w' := by
  by_cases h : v < 0 ∨ 100000 < v
  · go_enter Tryz.func62, Tryz.ntmps62
    go_wp2
    all_goals
      go_ret
      exact ⟨ret_int (by rw [checkV, if_pos (by omega)]), rfl⟩
  · have h1 : 0 ≤ v := by omega
    have h2 : v ≤ 100000 := by omega
    clear h
    by_cases h3 : l ≠ 0 ∧ -v ≤ l ∧ l ≤ v
    · have h4 : varV l ≤ v ∧ ¬ varV l = 0 := by unfold varV; split <;> (try split) <;> omega
      obtain ⟨h4, h5⟩ := h4
      have h6 : (varV l == 0) = false := by simpa using h5
      have H := Lib.hid h3
      clear h3
      go_enter Tryz.func62, Tryz.ntmps62
      go_wp2_with (go_at_call 75; refine (rSplit_c l _).mono ?_; rintro e w' ⟨rfl, rfl⟩)
      go_ret
      exact ⟨ret_int (by rw [checkV, if_neg (by omega), if_pos H.out]), rfl⟩
    · have h4 : v < varV l ∨ varV l = 0 := by unfold varV; split <;> (try split) <;> omega
      have H := Lib.hid h3
      clear h3
      rcases h4 with h4 | h4
      · have h5 : (varV l == 0) = false := by rw [beq_eq_false_iff_ne]; omega
        go_enter Tryz.func62, Tryz.ntmps62
        go_wp2_with (go_at_call 75; refine (rSplit_c l _).mono ?_; rintro e w' ⟨rfl, rfl⟩)
        go_ret
        exact ⟨ret_int (by rw [checkV, if_neg (by omega), if_neg H.out]), rfl⟩
      · have h5 : (varV l == 0) = true := by rw [beq_iff_eq]; omega
        clear h4
        go_enter Tryz.func62, Tryz.ntmps62
        go_wp2_with (go_at_call 75; refine (rSplit_c l _).mono ?_; rintro e w' ⟨rfl, rfl⟩)
        go_ret
        exact ⟨ret_int (by rw [checkV, if_neg (by omega), if_neg H.out]), rfl⟩

theorem neg_of (l : Int) : makeV (varV l) (!sideV l) = negV l := by
  unfold makeV varV sideV negV
  by_cases h0 : 0 < l <;> by_cases h1 : l ≤ 100000 <;> simp [h0, h1] <;> repeat (first | omega | split)

theorem rNeg_c (l : Int) (w : World) :
    Calls Tryz.prog 49 #[.int .i64 l] w fun e w' => e = .returned (.int .i64 (negV l)) ∧ w = w' := by
  go_enter Tryz.func49, Tryz.ntmps49
  go_wp2_with (first | (go_at_call 75; refine (rSplit_c l _).mono ?_; rintro e w' ⟨rfl, rfl⟩) | (go_at_call 76; refine (rJoin_c _ _ _).mono ?_; rintro e w' ⟨rfl, rfl⟩))
  go_ret
  exact ⟨ret_int (neg_of l), rfl⟩

theorem rIndex_c (l : Int) (w : World) :
    Calls Tryz.prog 74 #[.int .i64 l] w fun e w' => e = .returned (.int .i64 (indexV l)) ∧ w = w' := by
  have hv : 0 ≤ varV l ∧ varV l ≤ 100000 := by unfold varV; split <;> (try split) <;> omega
  by_cases h4 : varV l = 0
  · have H := Lib.hid h4
    have h5 : (varV l == 0) = true := by rw [beq_iff_eq]; omega
    clear h4
    go_enter Tryz.func74, Tryz.ntmps74
    go_wp2_with (go_at_call 75; refine (rSplit_c l _).mono ?_; rintro e w' ⟨rfl, rfl⟩)
    go_ret
    exact ⟨ret_int (by have h := H.out; unfold varV at h; unfold indexV; revert h; repeat (first | omega | split)), rfl⟩
  · cases hs : sideV l
    all_goals
      have H := Lib.hid h4
      have h5 : (varV l == 0) = false := by rw [beq_eq_false_iff_ne]; omega
      have HS : Hid (sideV l = _) := hs
      clear h4
      go_enter Tryz.func74, Tryz.ntmps74
      go_wp2_with (go_at_call 75; refine (rSplit_c l _).mono ?_; rintro e w' ⟨rfl, rfl⟩)
      go_ret
      refine ⟨ret_int ?_, rfl⟩
      have h := H.out
      have h' := HS.out
      simp [sideV] at h'
      unfold varV at h ⊢
      unfold indexV
      revert h
      repeat (first | omega | split)


end Go.Proofs.YtdgflniahoidmaaGreat
