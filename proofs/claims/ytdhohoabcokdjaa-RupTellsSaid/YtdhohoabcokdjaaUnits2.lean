/- Layer 7 (units): the first clause that fails, the first one that is unit. -/
import Derived.Test.YtdhohoabcokdjaaUnits1
import Derived.Test.YtdhohoabcokdjaaSlRows
set_option maxRecDepth 100000
namespace Go.Proofs.Ytdhohoabcokdjaa
open Go.RowKit Go.Maps

def failP (l c : List Int) : Bool := clauseV l c == -1
/-- The first clause that fails, or -1. -/
def failsV (l : List Int) (L : List (List Int)) : Int := idxP (failP l) L
/-- The first clause that is unit, or -1; what it says, or 0. -/
def nextU (l : List Int) (L : List (List Int)) : Int := idxP (unitB l) L
def nextS (l : List Int) (L : List (List Int)) : Int := match L.findIdx? (unitB l) with | some j => unitU l (L.getD j []) | none => 0

theorem look_holds {l c : List Int} (h : lookH l c = true) : failP l c = false ∧ unitB l c = false := by
  unfold lookH at h
  rw [decide_eq_true_eq] at h
  exact ⟨by rw [failP, clauseV, if_pos h]; rfl, unitB_not1 (by omega)⟩
theorem look_open {l c : List Int} (h : lookH l c = false) : (lookM l c = 0 ∧ failP l c = true ∧ unitB l c = false) ∨ (lookM l c = 1 ∧ failP l c = false ∧ unitB l c = true ∧ lookO l c = unitU l c) ∨ (lookM l c = 2 ∧ failP l c = false ∧ unitB l c = false) := by
  have h' := h
  unfold lookH at h
  rw [decide_eq_false_iff_not] at h
  have b1 := (cnV_bd l c 1).1
  have b0 := (cnV_bd l c 0).1
  have hM : lookM l c = min 2 (cnV l c 0) := by rw [lookM, h']; rfl
  have hO : lookO l c = openV l c := by rw [lookO, h']; rfl
  by_cases e0 : cnV l c 0 = 0
  · exact Or.inl ⟨by omega, by rw [failP, clauseV, if_neg h, if_neg (by omega)]; rfl, unitB_not0 (by omega)⟩
  · have hf : failP l c = false := by rw [failP, clauseV, if_neg h, if_pos (by omega)]; rfl
    by_cases e1 : cnV l c 0 = 1
    · have hu := unitB_of (by omega) e1
      exact Or.inr (Or.inl ⟨by omega, hf, hu, by rw [hO, unitU, hu]; rfl⟩)
    · exact Or.inr (Or.inr ⟨by omega, hf, unitB_not0 e1⟩)

theorem idxP_snoc_hit {α : Type} {p : α → Bool} {xs : List α} {y : α} (h : xs.findIdx? p ≠ none) : (xs ++ [y]).findIdx? p = xs.findIdx? p := by
  rw [List.findIdx?_append]
  cases e : xs.findIdx? p with
  | none => exact absurd e h
  | some k => rfl
theorem idxP_snoc_no {α : Type} {p : α → Bool} {xs : List α} {y : α} (h : p y = false) : (xs ++ [y]).findIdx? p = xs.findIdx? p := by
  rw [List.findIdx?_append]
  cases e : xs.findIdx? p with
  | none => simp [h]
  | some k => rfl
theorem idxP_snoc_new {α : Type} {p : α → Bool} {xs : List α} {y : α} (h : xs.findIdx? p = none) (hy : p y = true) : (xs ++ [y]).findIdx? p = some xs.length := by
  rw [List.findIdx?_append, h]
  simp [hy]
theorem idxP_neg {α : Type} {p : α → Bool} {xs : List α} : idxP p xs < 0 ↔ xs.findIdx? p = none := by
  unfold idxP
  cases xs.findIdx? p with
  | none => simp
  | some k => simp
theorem idxP_bd {α : Type} (p : α → Bool) (xs : List α) : -1 ≤ idxP p xs ∧ idxP p xs < xs.length := by
  unfold idxP
  cases e : xs.findIdx? p with
  | none => simp; omega
  | some k =>
    rw [List.findIdx?_eq_some_iff_getElem] at e
    obtain ⟨hk, _⟩ := e
    simp; omega
theorem next_same {l : List Int} {L : List (List Int)} {c : List Int} (h : unitB l c = false ∨ ¬ nextU l L < 0) : nextU l (L ++ [c]) = nextU l L ∧ nextS l (L ++ [c]) = nextS l L := by
  have e : (L ++ [c]).findIdx? (unitB l) = L.findIdx? (unitB l) := by
    rcases h with h | h
    · exact idxP_snoc_no h
    · exact idxP_snoc_hit (fun e => h (idxP_neg.2 e))
  refine ⟨by unfold nextU idxP; rw [e], ?_⟩
  unfold nextS
  rw [e]
  cases hq : L.findIdx? (unitB l) with
  | none => rfl
  | some k =>
    rw [List.findIdx?_eq_some_iff_getElem] at hq
    obtain ⟨hk, _⟩ := hq
    simp only [List.getD_eq_getElem?_getD, List.getElem?_append_left hk]
theorem next_new {l : List Int} {L : List (List Int)} {c : List Int} (h : nextU l L < 0) (hc : unitB l c = true) : nextU l (L ++ [c]) = L.length ∧ nextS l (L ++ [c]) = unitU l c := by
  have e := idxP_snoc_new (idxP_neg.1 h) hc
  refine ⟨by unfold nextU idxP; rw [e], ?_⟩
  unfold nextS
  rw [e]
  simp

/-- What step tells. -/
def RetStep (l : List Int) (L : List (List Int)) (w : World) (e : Ending) (w' : World) : Prop :=
  ∃ f u s : Int, e = .returned (.tuple #[.int .i64 f, .int .i64 u, .int .i64 s]) ∧ f = failsV l L ∧ (f < 0 → u = nextU l L ∧ s = nextS l L) ∧ w = w'

theorem rFails_c (A : Option Addr) (n c : Nat) (L : List (List Int)) (A' : Option Addr) (n' c' : Nat) (l : List Int) (w : World) (h : RowsSl w A n L) (h' : IntSl w A' n' l) :
    Calls Try.prog 94 #[.slice A n c, .slice A' n' c'] w fun e w' => e = .returned (.int .i64 (failsV l L)) ∧ w = w' := by
  have hn := h.len
  go_enter Try.func94, Try.ntmps94
  go_wp2
  go_loop [5] (fun i => ∃ k : Nat, k ≤ n ∧ i = .int .i64 k ∧ (L.take k).findIdx? (failP l) = none) (fun i => n - (intOf i).toNat)
  case atStart => exact ⟨0, Nat.zero_le _, rfl, rfl⟩
  case round =>
    obtain ⟨k, hk, rfl, hf⟩ := hrel
    have HF := Lib.hid hf
    clear hf
    by_cases hlt : k < n
    · obtain ⟨ad, xs, A1, n1, c1, rfl, hx, hcx, hrow⟩ := h.at_ hlt
      cases hb : (clauseV l xs == -1) with
      | true =>
        have HFF : Hid (failP l xs = true) := hb
        go_wp2_with (go_at_call 55; (with_reducible refine (rClause_c _ _ _ l _ _ _ xs _ h' hrow).mono ?_); rintro e w' ⟨rfl, rfl⟩)
        go_ret
        exact ⟨ret_int (by rw [failsV, idxP, findIdx_hit HF.out hx.out HFF.out]), rfl⟩
      | false =>
        have HFF : Hid (failP l xs = false) := hb
        go_wp2_with (go_at_call 55; (with_reducible refine (rClause_c _ _ _ l _ _ _ xs _ h' hrow).mono ?_); rintro e w' ⟨rfl, rfl⟩)
        go_round
        case rel => exact ⟨k + 1, by omega, by go_num, findIdx_snoc_none HF.out hx.out HFF.out⟩
        case measure => simp [intOf]; omega
    · have hf := HF.out
      rw [take_len_of h.1 hlt] at hf
      have HF := Lib.hid hf
      clear hf
      go_wp2
      go_ret
      exact ⟨ret_int (by rw [failsV, idxP, HF.out]), rfl⟩

/-- What Next tells. -/
def RetNext (l : List Int) (L : List (List Int)) (w : World) (e : Ending) (w' : World) : Prop :=
  ∃ (x i : Int) (t : Bool), e = .returned (.tuple #[.int .i64 x, .int .i64 i, .bool t]) ∧ x = nextS l L ∧ i = (if 0 ≤ nextU l L then nextU l L else 0) ∧ t = decide (0 ≤ nextU l L) ∧ Ext w w'

theorem rNext_c (A : Option Addr) (n c : Nat) (L : List (List Int)) (A' : Option Addr) (n' c' : Nat) (l : List Int) (w : World) (h : RowsSl w A n L) (h' : IntSl w A' n' l) :
    Calls Try.prog 95 #[.slice A n c, .slice A' n' c'] w (RetNext l L w) := by
  have hn := h.len
  go_enter Try.func95, Try.ntmps95
  go_wp2
  go_loopw [7] (fun i wr => ∃ k : Nat, k ≤ n ∧ i = .int .i64 k ∧ (L.take k).findIdx? (unitB l) = none ∧ Ext w wr) (fun i _ => n - (intOf i).toNat)
  case atStart => exact ⟨0, Nat.zero_le _, rfl, rfl, Ext.refl _⟩
  case round =>
    obtain ⟨k, hk, rfl, hf, hx⟩ := hrel
    have HF := Lib.hid hf
    have HX := Lib.hid hx
    clear hf hx
    by_cases hlt : k < n
    · obtain ⟨ad, xs, A1, n1, c1, rfl, hx, hcx, hrow⟩ := (h.ext HX.out).at_ hlt
      cases hb : unitB l xs with
      | true =>
        have hi := findIdx_hit HF.out hx.out hb
        have hg : L.getD k [] = xs := by rw [List.getD_eq_getElem?_getD, hx.out]; rfl
        have hU : nextU l L = k := by rw [nextU, idxP, hi]
        have hS : nextS l L = unitU l xs := by rw [nextS, hi]; simp only [hg]
        have HU := Lib.hid hU
        have HS := Lib.hid hS
        clear hi hg hU hS
        go_wp2_with (go_at_call 56; (with_reducible refine (rUnit_c _ _ _ l _ _ _ xs _ (h'.ext HX.out) hrow).mono ?_); rintro e w' ⟨rfl, hx'⟩; have HX' := Lib.hid hx'; clear hx')
        go_ret3
        exact ⟨_, _, _, rfl, HS.out.symm, by rw [HU.out, if_pos (by omega)], by rw [HU.out, decide_eq_true (by omega)], HX.out.trans HX'.out⟩
      | false =>
        go_wp2_with (go_at_call 56; (with_reducible refine (rUnit_c _ _ _ l _ _ _ xs _ (h'.ext HX.out) hrow).mono ?_); rintro e w' ⟨rfl, hx'⟩; have HX' := Lib.hid hx'; clear hx')
        go_roundw
        case rel => exact ⟨k + 1, by omega, by go_num, findIdx_snoc_none HF.out hx.out hb, HX.out.trans HX'.out⟩
        case measure => simp [intOf]; omega
    · have hf := HF.out
      rw [take_len_of h.1 hlt] at hf
      have hU : nextU l L = -1 := by rw [nextU, idxP, hf]
      have hS : nextS l L = 0 := by rw [nextS, hf]
      have HU := Lib.hid hU
      have HS := Lib.hid hS
      clear hf hU hS
      go_wp2
      go_ret3
      exact ⟨_, _, _, rfl, HS.out.symm, by rw [HU.out]; rfl, by rw [HU.out]; rfl, HX.out⟩
end Go.Proofs.Ytdhohoabcokdjaa
