/- Layer 1's functions over slices of numbers. -/
import Derived.Test.YtnbodnihfkfmnaaLit
import Derived.Test.YtnbodnihfkfmnaaSl
import Derived.Deep.QuietTactic
namespace Go.Proofs.Ytnbodnihfkfmnaa
open Go.RowKit

def mostV (xs : List Int) : Int := xs.foldl (fun m x => max m (varV x)) 0
theorem varV_bd (l : Int) : 0 ≤ varV l ∧ varV l ≤ 100000 := by unfold varV; split <;> (try split) <;> omega
theorem mostV_snoc (xs : List Int) (x : Int) : mostV (xs ++ [x]) = max (mostV xs) (varV x) := by simp [mostV]
theorem mostV_bd (xs : List Int) : 0 ≤ mostV xs ∧ mostV xs ≤ 100000 := by
  unfold mostV
  suffices h : ∀ (xs : List Int) (m : Int), 0 ≤ m → m ≤ 100000 → 0 ≤ xs.foldl (fun m x => max m (varV x)) m ∧ xs.foldl (fun m x => max m (varV x)) m ≤ 100000 from h xs 0 (by decide) (by decide)
  intro xs
  induction xs with
  | nil => intro m h1 h2; exact ⟨h1, h2⟩
  | cons x xs ih => intro m h1 h2; have := varV_bd x; exact ih (max m (varV x)) (by omega) (by omega)

theorem most_c (A : Option Addr) (n c : Nat) (xs : List Int) (w : World) (h : IntSl w A n xs) :
    Calls Try.prog 25 #[.slice A n c] w fun e w' => e = .returned (.int .i64 (mostV xs)) ∧ w = w' := by
  have hn := h.len
  go_enter Try.func25, Try.ntmps25
  go_wp2
  go_loop [3, 8] (fun m i => ∃ k : Nat, k ≤ n ∧ i = .int .i64 k ∧ m = .int .i64 (mostV (xs.take k))) (fun _ i => n - (intOf i).toNat)
  case atStart => exact ⟨0, Nat.zero_le _, rfl, rfl⟩
  case round =>
    obtain ⟨k, hk, rfl, rfl⟩ := hrel
    by_cases hlt : k < n
    · obtain ⟨ad, x, rfl, hx, hc, hx1, hx2⟩ := h.at_ hlt
      go_wp2_with (go_at_call 15; refine (var_c _ _).mono ?_; rintro e w' ⟨rfl, rfl⟩)
      go_round
      case rel => exact ⟨k + 1, by omega, by go_num, by rw [take_succ_of hx.out, mostV_snoc]; congr 1; split <;> omega⟩
      case measure => simp [intOf]; omega
    · go_wp2
      go_ret
      refine ⟨ret_int ?_, rfl⟩
      rw [take_len_of h.1 hlt]

theorem rMost_c (A : Option Addr) (n c : Nat) (xs : List Int) (w : World) (h : IntSl w A n xs) :
    Calls Try.prog 26 #[.slice A n c] w fun e w' => e = .returned (.int .i64 (mostV xs)) ∧ w = w' := by
  have hn := h.len
  go_enter Try.func26, Try.ntmps26
  go_wp2
  go_loop [3, 4] (fun m i => ∃ k : Nat, k ≤ n ∧ i = .int .i64 k ∧ m = .int .i64 (mostV (xs.take k))) (fun _ i => n - (intOf i).toNat)
  case atStart => exact ⟨0, Nat.zero_le _, rfl, rfl⟩
  case round =>
    obtain ⟨k, hk, rfl, rfl⟩ := hrel
    by_cases hlt : k < n
    · obtain ⟨ad, x, rfl, hx, hc, hx1, hx2⟩ := h.at_ hlt
      go_wp2_with (go_at_call 10; refine (rSplit_c _ _).mono ?_; rintro e w' ⟨rfl, rfl⟩)
      all_goals
        go_round
        case rel => exact ⟨k + 1, by omega, by go_num, by rw [take_succ_of hx.out, mostV_snoc]; congr 1; omega⟩
        case measure => simp [intOf]; omega
    · go_wp2
      go_ret
      refine ⟨ret_int ?_, rfl⟩
      rw [take_len_of h.1 hlt]

/-- The first place of a number, or -1. -/
def idxV (xs : List Int) (x : Int) : Int := match xs.findIdx? (· == x) with | some k => k | none => -1
theorem findIdx_snoc_none {xs : List Int} {x y : Int} {k : Nat} (h : (xs.take k).findIdx? (· == x) = none) (hy : xs[k]? = some y) (hne : y ≠ x) : (xs.take (k + 1)).findIdx? (· == x) = none := by
  rw [take_succ_of hy, List.findIdx?_append, h]
  simp [hne]
theorem idxV_hit {xs : List Int} {x : Int} {k : Nat} (h : (xs.take k).findIdx? (· == x) = none) (hy : xs[k]? = some x) : idxV xs x = k := by
  have hk : k < xs.length := (List.getElem?_eq_some_iff.1 hy).1
  have e : xs.findIdx? (· == x) = some k := by
    rw [List.findIdx?_eq_some_iff_getElem]
    refine ⟨hk, ?_, ?_⟩
    · have := (List.getElem?_eq_some_iff.1 hy).2; simp [this]
    · intro j hj
      rw [List.findIdx?_eq_none_iff] at h
      have := h xs[j] (by rw [List.mem_take_iff_getElem]; exact ⟨j, by omega, rfl⟩)
      simpa using this
  rw [idxV, e]

theorem idx_c (A : Option Addr) (n c : Nat) (xs : List Int) (x : Int) (w : World) (h : IntSl w A n xs) :
    Calls Try.prog 43 #[.slice A n c, .int .i64 x] w fun e w' => e = .returned (.int .i64 (idxV xs x)) ∧ w = w' := by
  have hn := h.len
  go_enter Try.func43, Try.ntmps43
  go_wp2
  go_loop [8] (fun i => ∃ k : Nat, k ≤ n ∧ i = .int .i64 k ∧ (xs.take k).findIdx? (· == x) = none) (fun i => n - (intOf i).toNat)
  case atStart => exact ⟨0, Nat.zero_le _, rfl, rfl⟩
  case round =>
    obtain ⟨k, hk, rfl, hno⟩ := hrel
    have HN := Lib.hid hno
    clear hno
    by_cases hlt : k < n
    · obtain ⟨ad, y, rfl, hy, hc, hx1, hx2⟩ := h.at_ hlt
      by_cases hxy : x = y
      · subst hxy
        go_wp2
        go_ret
        exact ⟨ret_int (idxV_hit HN.out hy.out).symm, rfl⟩
      · have hb : (x == y) = false := by simpa using hxy
        have HX := Lib.hid hxy
        clear hxy
        go_wp2
        go_round
        case rel => exact ⟨k + 1, by omega, by go_num, findIdx_snoc_none HN.out hy.out (fun e => HX.out e.symm)⟩
        case measure => simp [intOf]; omega
    · go_wp2
      go_ret
      refine ⟨ret_int ?_, rfl⟩
      have := HN.out
      rw [take_len_of h.1 hlt] at this
      rw [idxV, this]

/-- Is a number in a list? -/
def hasV (xs : List Int) (x : Int) : Bool := xs.any (· == x)
theorem hasV_idx (xs : List Int) (x : Int) : decide (0 ≤ idxV xs x) = hasV xs x := by
  unfold idxV hasV
  cases e : xs.findIdx? (· == x) with
  | none =>
    rw [List.findIdx?_eq_none_iff] at e
    have : xs.any (· == x) = false := by rw [List.any_eq_false]; intro y hy; simp [e y hy]
    simp [this]
  | some k =>
    rw [List.findIdx?_eq_some_iff_getElem] at e
    obtain ⟨hk, e, _⟩ := e
    have : xs.any (· == x) = true := by rw [List.any_eq_true]; exact ⟨_, List.getElem_mem hk, e⟩
    simp [this]

theorem contains_c (A : Option Addr) (n c : Nat) (xs : List Int) (x : Int) (w : World) (h : IntSl w A n xs) :
    Calls Try.prog 40 #[.slice A n c, .int .i64 x] w fun e w' => e = .returned (.bool (hasV xs x)) ∧ w = w' := by
  go_enter Try.func40, Try.ntmps40
  go_wp2_with (go_at_call 43; refine (idx_c _ _ _ xs _ _ h).mono ?_; rintro e w' ⟨rfl, rfl⟩)
  go_ret
  exact ⟨ret_bool (hasV_idx xs x), rfl⟩

/-- Of's answer. -/
def thereV (xs : List Int) (v l : Int) : Bool := decide (1 ≤ v) && isV v && hasV xs l
def ofV (xs : List Int) (v : Int) : Int :=
  if thereV xs v v then (if thereV xs v (-v) then 2 else 1) else if thereV xs v (-v) then -1 else 0

theorem of1_c (A : Option Addr) (n c : Nat) (xs : List Int) (v l : Int) (p q : Addr) (w : World) (h : IntSl w A n xs) (hp : w.cell? p = some (.int .i64 v)) (hq : w.cell? q = some (.slice A n c)) :
    Calls Try.prog 39 #[.int .i64 l, .pointer (some p), .pointer (some q)] w fun e w' => e = .returned (.bool (thereV xs v l)) ∧ w = w' := by
  by_cases h1 : 1 ≤ v
  · cases h2 : isV v
    · go_enter Try.func39, Try.ntmps39
      go_wp2_with (go_at_call 37; refine (is_c _ _).mono ?_; rintro e w' ⟨rfl, rfl⟩)
      go_ret
      exact ⟨ret_bool (by simp [thereV, h2]), rfl⟩
    · go_enter Try.func39, Try.ntmps39
      go_wp2_with (first | (go_at_call 37; refine (is_c _ _).mono ?_; rintro e w' ⟨rfl, rfl⟩) | (go_at_call 40; refine (contains_c _ _ _ xs _ _ h).mono ?_; rintro e w' ⟨rfl, rfl⟩))
      go_ret
      exact ⟨ret_bool (by simp [thereV, h1, h2]), rfl⟩
  · go_enter Try.func39, Try.ntmps39
    go_wp2
    go_ret
    have h2 : ¬ 1 ≤ v := by omega
    exact ⟨ret_bool (by simp [thereV, h2]), rfl⟩

theorem thereV_no {xs : List Int} {v l : Int} (h : ¬ 1 ≤ v) : thereV xs v l = false := by simp [thereV, h]

set_option maxHeartbeats 1000000 in
theorem of_c (A : Option Addr) (n c : Nat) (xs : List Int) (v : Int) (w : World) (h : IntSl w A n xs) (hv : v ≤ 9223372036854775807) :
    Calls Try.prog 23 #[.slice A n c, .int .i64 v] w fun e w' => e = .returned (.int .i64 (ofV xs v)) ∧ Ext w w' := by
  have hx : IntSl ((w.alloc (Obj.cells #[Value.slice A n c] 33)).alloc (Obj.cells #[Value.int IntKind.i64 v] 3)) A n xs := h.ext (((Ext.refl _).alloc _).alloc _)
  by_cases h1 : 1 ≤ v
  · go_enter Try.func23, Try.ntmps23
    go_wp2_with fail
    go_quiet ((go_at_call 39; exact quiet_left (of1_c A n c xs v _ _ _ _ (hx.ext ((Ext.refl _).drewN _)) (by go_simp) (by go_simp))))
    go_wp2
    all_goals
      go_ret
      refine ⟨ret_int ?_, (((Ext.refl _).alloc _).alloc _).drewN _⟩
      simp_all [ofV]
  · have HT := Lib.hid (fun l => thereV_no (xs := xs) (l := l) h1)
    go_enter Try.func23, Try.ntmps23
    go_wp2_with fail
    go_quiet ((go_at_call 39; exact quiet_left (of1_c A n c xs v _ _ _ _ (hx.ext ((Ext.refl _).drewN _)) (by go_simp) (by go_simp))))
    simp only [HT.out]
    go_wp2
    go_ret
    refine ⟨ret_int ?_, (((Ext.refl _).alloc _).alloc _).drewN _⟩
    simp [ofV, HT.out]

/-! ### the reference's Of -/
def yesV (xs : List Int) (v : Int) : Bool := xs.any fun x => varV x == v && sideV x
def noV (xs : List Int) (v : Int) : Bool := xs.any fun x => varV x == v && !sideV x
theorem yesV_snoc (xs : List Int) (x v : Int) : yesV (xs ++ [x]) v = (yesV xs v || (varV x == v && sideV x)) := by simp [yesV, List.any_append]
theorem noV_snoc (xs : List Int) (x v : Int) : noV (xs ++ [x]) v = (noV xs v || (varV x == v && !sideV x)) := by simp [noV, List.any_append]
theorem any_ext {α : Type} {p q : α → Bool} (xs : List α) (h : ∀ x, p x = q x) : xs.any p = xs.any q := by rw [funext h]
theorem yesV_has (xs : List Int) (v : Int) (h0 : 1 ≤ v) (h1 : v ≤ 100000) : yesV xs v = hasV xs v := any_ext xs fun x => by
  rw [Bool.eq_iff_iff]
  simp only [sideV, Bool.and_eq_true, beq_iff_eq, decide_eq_true_eq]
  unfold varV
  split <;> (try split) <;> omega
theorem noV_has (xs : List Int) (v : Int) (h0 : 1 ≤ v) (h1 : v ≤ 100000) : noV xs v = hasV xs (-v) := any_ext xs fun x => by
  rw [Bool.eq_iff_iff]
  simp only [sideV, Bool.and_eq_true, beq_iff_eq, Bool.not_eq_true', Bool.and_eq_false_iff, decide_eq_false_iff_not]
  unfold varV
  split <;> (try split) <;> omega
theorem ofV_in (xs : List Int) (v : Int) (h0 : 1 ≤ v) (h1 : v ≤ 100000) : ofV xs v = if yesV xs v then (if noV xs v then 2 else 1) else if noV xs v then -1 else 0 := by
  have hi : isV v = true := by simp [isV]; omega
  rw [yesV_has xs v h0 h1, noV_has xs v h0 h1]
  simp [ofV, thereV, h0, hi]
theorem ofV_out (xs : List Int) (v : Int) (h : v < 1 ∨ 100000 < v) : ofV xs v = 0 := by
  have : ∀ l, thereV xs v l = false := fun l => by
    rcases h with h | h
    · exact thereV_no (by omega)
    · have : isV v = false := by simp [isV]; omega
      simp [thereV, this]
  simp [ofV, this]

set_option maxHeartbeats 1000000 in
theorem rOf_c (A : Option Addr) (n c : Nat) (xs : List Int) (v : Int) (w : World) (h : IntSl w A n xs) :
    Calls Try.prog 24 #[.slice A n c, .int .i64 v] w fun e w' => e = .returned (.int .i64 (ofV xs v)) ∧ w = w' := by
  have hn := h.len
  go_enter Try.func24, Try.ntmps24
  go_wp2
  go_loop [5, 6, 7] (fun y m i => ∃ k : Nat, k ≤ n ∧ i = .int .i64 k ∧ y = .bool (yesV (xs.take k) v) ∧ m = .bool (noV (xs.take k) v)) (fun _ _ i => n - (intOf i).toNat)
  case atStart => exact ⟨0, Nat.zero_le _, rfl, rfl, rfl⟩
  case round =>
    obtain ⟨k, hk, rfl, rfl, rfl⟩ := hrel
    by_cases hlt : k < n
    · obtain ⟨ad, x, rfl, hx, hc, hx1, hx2⟩ := h.at_ hlt
      go_wp2_with (go_at_call 10; refine (rSplit_c _ _).mono ?_; rintro e w' ⟨rfl, rfl⟩)
      all_goals
        go_round
        case rel => exact ⟨k + 1, by omega, by go_num, by rw [take_succ_of hx.out, yesV_snoc]; simp [*], by rw [take_succ_of hx.out, noV_snoc]; simp [*]⟩
        case measure => simp [intOf]; omega
    · have e := take_len_of h.1 hlt
      by_cases hv : v < 1 ∨ 100000 < v
      · have HO := Lib.hid (ofV_out xs v hv)
        go_wp2
        all_goals
          go_ret
          exact ⟨ret_int (by rw [HO.out]), rfl⟩
      · have HO := Lib.hid (ofV_in xs v (by omega) (by omega))
        have h1 : 1 ≤ v := by omega
        have h2 : v ≤ 100000 := by omega
        clear hv
        have e' := Lib.hid e
        clear e
        go_wp2
        all_goals
          go_ret
          refine ⟨ret_int ?_, rfl⟩
          rw [HO.out]
          rw [e'.out] at *
          simp [*]
end Go.Proofs.Ytnbodnihfkfmnaa
