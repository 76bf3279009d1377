/- Layer 7 (units): the first clause that fails, the first one that is unit. -/
import Derived.Test.YthkjcdkdfeckbaaUnits1
import Derived.Test.YthkjcdkdfeckbaaSlRows
namespace Go.Proofs.Ythkjcdkdfeckbaa
open Go.RowKit Go.Maps

def failP (l c : List Int) : Bool := clauseV l c == -1
/-- The first clause that fails, or -1. -/
def failsV (l : List Int) (L : List (List Int)) : Int := idxP (failP l) L
/-- The first clause that is unit, or -1; what it says, or 0. -/
def nextU (l : List Int) (L : List (List Int)) : Int := idxP (unitB l) L
def nextS (l : List Int) (L : List (List Int)) : Int := match L.findIdx? (unitB l) with | some j => unitU l (L.getD j []) | none => 0

theorem look_holds {l c : List Int} (h : lookH l c = true) : failP l c = false ∧ unitB l c = false := by
  unfold lookH at h
  rw [decide_eq_true_eq] at h
  exact ⟨by rw [failP, clauseV, if_pos h]; rfl, unitB_not1 (by omega)⟩
theorem look_open {l c : List Int} (h : lookH l c = false) : (lookM l c = 0 ∧ failP l c = true ∧ unitB l c = false) ∨ (lookM l c = 1 ∧ failP l c = false ∧ unitB l c = true ∧ lookO l c = unitU l c) ∨ (lookM l c = 2 ∧ failP l c = false ∧ unitB l c = false) := by
  have h' := h
  unfold lookH at h
  rw [decide_eq_false_iff_not] at h
  have b1 := (cnV_bd l c 1).1
  have b0 := (cnV_bd l c 0).1
  have hM : lookM l c = min 2 (cnV l c 0) := by rw [lookM, h']; rfl
  have hO : lookO l c = openV l c := by rw [lookO, h']; rfl
  by_cases e0 : cnV l c 0 = 0
  · exact Or.inl ⟨by omega, by rw [failP, clauseV, if_neg h, if_neg (by omega)]; rfl, unitB_not0 (by omega)⟩
  · have hf : failP l c = false := by rw [failP, clauseV, if_neg h, if_pos (by omega)]; rfl
    by_cases e1 : cnV l c 0 = 1
    · have hu := unitB_of (by omega) e1
      exact Or.inr (Or.inl ⟨by omega, hf, hu, by rw [hO, unitU, hu]; rfl⟩)
    · exact Or.inr (Or.inr ⟨by omega, hf, unitB_not0 e1⟩)

theorem idxP_snoc_hit {α : Type} {p : α → Bool} {xs : List α} {y : α} (h : xs.findIdx? p ≠ none) : (xs ++ [y]).findIdx? p = xs.findIdx? p := by
  rw [List.findIdx?_append]
  cases e : xs.findIdx? p with
  | none => exact absurd e h
  | some k => rfl
theorem idxP_snoc_no {α : Type} {p : α → Bool} {xs : List α} {y : α} (h : p y = false) : (xs ++ [y]).findIdx? p = xs.findIdx? p := by
  rw [List.findIdx?_append]
  cases e : xs.findIdx? p with
  | none => simp [h]
  | some k => rfl
theorem idxP_snoc_new {α : Type} {p : α → Bool} {xs : List α} {y : α} (h : xs.findIdx? p = none) (hy : p y = true) : (xs ++ [y]).findIdx? p = some xs.length := by
  rw [List.findIdx?_append, h]
  simp [hy]
theorem idxP_neg {α : Type} {p : α → Bool} {xs : List α} : idxP p xs < 0 ↔ xs.findIdx? p = none := by
  unfold idxP
  cases xs.findIdx? p with
  | none => simp
  | some k => simp
theorem idxP_bd {α : Type} (p : α → Bool) (xs : List α) : -1 ≤ idxP p xs ∧ idxP p xs < xs.length := by
  unfold idxP
  cases e : xs.findIdx? p with
  | none => simp; omega
  | some k =>
    rw [List.findIdx?_eq_some_iff_getElem] at e
    obtain ⟨hk, _⟩ := e
    simp; omega
theorem next_same {l : List Int} {L : List (List Int)} {c : List Int} (h : unitB l c = false ∨ ¬ nextU l L < 0) : nextU l (L ++ [c]) = nextU l L ∧ nextS l (L ++ [c]) = nextS l L := by
  have e : (L ++ [c]).findIdx? (unitB l) = L.findIdx? (unitB l) := by
    rcases h with h | h
    · exact idxP_snoc_no h
    · exact idxP_snoc_hit (fun e => h (idxP_neg.2 e))
  refine ⟨by unfold nextU idxP; rw [e], ?_⟩
  unfold nextS
  rw [e]
  cases hq : L.findIdx? (unitB l) with
  | none => rfl
  | some k =>
    rw [List.findIdx?_eq_some_iff_getElem] at hq
    obtain ⟨hk, _⟩ := hq
    simp only [List.getD_eq_getElem?_getD, List.getElem?_append_left hk]
theorem next_new {l : List Int} {L : List (List Int)} {c : List Int} (h : nextU l L < 0) (hc : unitB l c = true) : nextU l (L ++ [c]) = L.length ∧ nextS l (L ++ [c]) = unitU l c := by
  have e := idxP_snoc_new (idxP_neg.1 h) hc
  refine ⟨by unfold nextU idxP; rw [e], ?_⟩
  unfold nextS
  rw [e]
  simp

/-- What step tells. -/
def RetStep (l : List Int) (L : List (List Int)) (w : World) (e : Ending) (w' : World) : Prop :=
  ∃ f u s : Int, e = .returned (.tuple #[.int .i64 f, .int .i64 u, .int .i64 s]) ∧ f = failsV l L ∧ (f < 0 → u = nextU l L ∧ s = nextS l L) ∧ w = w'

set_option maxHeartbeats 2000000 in
theorem step_c (g b kk : Nat) (l : List Int) (A : Option Addr) (n c : Nat) (L : List (List Int)) (w : World) (hp : w.cell? ⟨g, 0, none⟩ = some (.map (some b))) (hc : Cnt w b kk (cntV l)) (h : RowsSl w A n L) :
    Calls Try.prog 50 #[.pointer (some ⟨g, 0, none⟩), .slice A n c] w (RetStep l L w) := by
  have hn := h.len
  have HC := Lib.hid hc
  clear hc
  go_enter Try.func50, Try.ntmps50
  go_wp2
  go_step3
  go_wp2
  go_step3
  go_wp2
  go_loop [4, 5, 6, 14] (fun a o m i => ∃ (k : Nat) (u s : Int), a = .int .i64 (-1) ∧ k ≤ n ∧ i = .int .i64 k ∧ o = .int .i64 u ∧ m = .int .i64 s ∧ (L.take k).findIdx? (failP l) = none ∧ u = nextU l (L.take k) ∧ s = nextS l (L.take k)) (fun _ _ _ i => n - (intOf i).toNat)
  case atStart => exact ⟨0, -1, 0, rfl, Nat.zero_le _, rfl, rfl, rfl, rfl, rfl, rfl⟩
  case round =>
    obtain ⟨k, u, s, rfl, hk, rfl, rfl, rfl, hf, hu, hs⟩ := hrel
    have HF := Lib.hid hf
    have HU := Lib.hid hu
    have HS := Lib.hid hs
    clear hf hu hs
    by_cases hlt : k < n
    · obtain ⟨ad, xs, A', n', c', rfl, hx, hcx, hrow⟩ := h.at_ hlt
      have HT := Lib.hid (take_succ_of hx.out)
      cases hh : lookH l xs with
      | true =>
        obtain ⟨hf, hu⟩ := look_holds hh
        have HFF := Lib.hid hf
        have HUU := Lib.hid hu
        have HH := Lib.hid hh
        clear hf hu hh
        go_wp2_with (go_at_call 47; (with_reducible refine (look_c _ _ _ l _ _ _ xs _ hp HC.out hrow).mono ?_); rintro e w' ⟨rfl, rfl⟩; rw [HH.out])
        go_round
        case rel =>
          obtain ⟨e1, e2⟩ := next_same (L := L.take k) (Or.inl HUU.out)
          exact ⟨k + 1, u, s, rfl, by omega, by go_num, rfl, rfl, findIdx_snoc_none HF.out hx.out HFF.out, by rw [HT.out, e1]; exact HU.out, by rw [HT.out, e2]; exact HS.out⟩
        case measure => simp [intOf]; omega
      | false =>
        have HH := Lib.hid hh
        rcases look_open hh with ⟨hm, hf, hu⟩ | ⟨hm, hf, hu, ho⟩ | ⟨hm, hf, hu⟩
        · have HM := Lib.hid hm
          have HFF := Lib.hid hf
          clear hm hf hu hh
          go_wp2_with (go_at_call 47; (with_reducible refine (look_c _ _ _ l _ _ _ xs _ hp HC.out hrow).mono ?_); rintro e w' ⟨rfl, rfl⟩; rw [HH.out, HM.out])
          try rw [Exit.noGoto_ret]
          go_ret3
          refine ⟨_, _, _, rfl, ?_, fun hlt => ?_, rfl⟩
          · rw [failsV, idxP, findIdx_hit HF.out hx.out HFF.out]
          · omega
        · have HM := Lib.hid hm
          have HFF := Lib.hid hf
          have HUU := Lib.hid hu
          have HO := Lib.hid ho
          clear hm hf hu ho hh
          by_cases hu0 : u < 0
          · go_wp2_with (go_at_call 47; (with_reducible refine (look_c _ _ _ l _ _ _ xs _ hp HC.out hrow).mono ?_); rintro e w' ⟨rfl, rfl⟩; rw [HH.out, HM.out, HO.out])
            go_round
            case rel =>
              obtain ⟨e1, e2⟩ := next_new (L := L.take k) (by rw [← HU.out]; exact hu0) HUU.out
              have hlk : (L.take k).length = k := by rw [List.length_take, h.1]; omega
              exact ⟨k + 1, _, _, rfl, by omega, by go_num, rfl, rfl, findIdx_snoc_none HF.out hx.out HFF.out, by rw [HT.out, e1, hlk], by rw [HT.out, e2]⟩
            case measure => simp [intOf]; omega
          · go_wp2_with (go_at_call 47; (with_reducible refine (look_c _ _ _ l _ _ _ xs _ hp HC.out hrow).mono ?_); rintro e w' ⟨rfl, rfl⟩; rw [HH.out, HM.out])
            go_round
            case rel =>
              obtain ⟨e1, e2⟩ := next_same (c := xs) (L := L.take k) (Or.inr (by rw [← HU.out]; omega))
              exact ⟨k + 1, u, s, rfl, by omega, by go_num, rfl, rfl, findIdx_snoc_none HF.out hx.out HFF.out, by rw [HT.out, e1]; exact HU.out, by rw [HT.out, e2]; exact HS.out⟩
            case measure => simp [intOf]; omega
        · have HM := Lib.hid hm
          have HFF := Lib.hid hf
          have HUU := Lib.hid hu
          clear hm hf hu hh
          go_wp2_with (go_at_call 47; (with_reducible refine (look_c _ _ _ l _ _ _ xs _ hp HC.out hrow).mono ?_); rintro e w' ⟨rfl, rfl⟩; rw [HH.out, HM.out])
          go_round
          case rel =>
            obtain ⟨e1, e2⟩ := next_same (L := L.take k) (Or.inl HUU.out)
            exact ⟨k + 1, u, s, rfl, by omega, by go_num, rfl, rfl, findIdx_snoc_none HF.out hx.out HFF.out, by rw [HT.out, e1]; exact HU.out, by rw [HT.out, e2]; exact HS.out⟩
          case measure => simp [intOf]; omega
    · have hf := HF.out
      have hu := HU.out
      have hs := HS.out
      rw [take_len_of h.1 hlt] at hf hu hs
      have HF := Lib.hid hf
      have HU := Lib.hid hu
      have HS := Lib.hid hs
      clear hf hu hs
      go_wp2
      go_ret3
      exact ⟨_, _, _, rfl, by rw [failsV, idxP, HF.out], fun _ => ⟨HU.out, HS.out⟩, rfl⟩

theorem rFails_c (A : Option Addr) (n c : Nat) (L : List (List Int)) (A' : Option Addr) (n' c' : Nat) (l : List Int) (w : World) (h : RowsSl w A n L) (h' : IntSl w A' n' l) :
    Calls Try.prog 51 #[.slice A n c, .slice A' n' c'] w fun e w' => e = .returned (.int .i64 (failsV l L)) ∧ w = w' := by
  have hn := h.len
  go_enter Try.func51, Try.ntmps51
  go_wp2
  go_loop [5] (fun i => ∃ k : Nat, k ≤ n ∧ i = .int .i64 k ∧ (L.take k).findIdx? (failP l) = none) (fun i => n - (intOf i).toNat)
  case atStart => exact ⟨0, Nat.zero_le _, rfl, rfl⟩
  case round =>
    obtain ⟨k, hk, rfl, hf⟩ := hrel
    have HF := Lib.hid hf
    clear hf
    by_cases hlt : k < n
    · obtain ⟨ad, xs, A1, n1, c1, rfl, hx, hcx, hrow⟩ := h.at_ hlt
      cases hb : (clauseV l xs == -1) with
      | true =>
        have HFF : Hid (failP l xs = true) := hb
        go_wp2_with (go_at_call 25; (with_reducible refine (rClause_c _ _ _ l _ _ _ xs _ h' hrow).mono ?_); rintro e w' ⟨rfl, rfl⟩)
        go_ret
        exact ⟨ret_int (by rw [failsV, idxP, findIdx_hit HF.out hx.out HFF.out]), rfl⟩
      | false =>
        have HFF : Hid (failP l xs = false) := hb
        go_wp2_with (go_at_call 25; (with_reducible refine (rClause_c _ _ _ l _ _ _ xs _ h' hrow).mono ?_); rintro e w' ⟨rfl, rfl⟩)
        go_round
        case rel => exact ⟨k + 1, by omega, by go_num, findIdx_snoc_none HF.out hx.out HFF.out⟩
        case measure => simp [intOf]; omega
    · have hf := HF.out
      rw [take_len_of h.1 hlt] at hf
      have HF := Lib.hid hf
      clear hf
      go_wp2
      go_ret
      exact ⟨ret_int (by rw [failsV, idxP, HF.out]), rfl⟩

/-- What Next tells. -/
def RetNext (l : List Int) (L : List (List Int)) (w : World) (e : Ending) (w' : World) : Prop :=
  ∃ (x i : Int) (t : Bool), e = .returned (.tuple #[.int .i64 x, .int .i64 i, .bool t]) ∧ x = nextS l L ∧ i = (if 0 ≤ nextU l L then nextU l L else 0) ∧ t = decide (0 ≤ nextU l L) ∧ Ext w w'

theorem rNext_c (A : Option Addr) (n c : Nat) (L : List (List Int)) (A' : Option Addr) (n' c' : Nat) (l : List Int) (w : World) (h : RowsSl w A n L) (h' : IntSl w A' n' l) :
    Calls Try.prog 13 #[.slice A n c, .slice A' n' c'] w (RetNext l L w) := by
  have hn := h.len
  go_enter Try.func13, Try.ntmps13
  go_wp2
  go_loopw [7] (fun i wr => ∃ k : Nat, k ≤ n ∧ i = .int .i64 k ∧ (L.take k).findIdx? (unitB l) = none ∧ Ext w wr) (fun i _ => n - (intOf i).toNat)
  case atStart => exact ⟨0, Nat.zero_le _, rfl, rfl, Ext.refl _⟩
  case round =>
    obtain ⟨k, hk, rfl, hf, hx⟩ := hrel
    have HF := Lib.hid hf
    have HX := Lib.hid hx
    clear hf hx
    by_cases hlt : k < n
    · obtain ⟨ad, xs, A1, n1, c1, rfl, hx, hcx, hrow⟩ := (h.ext HX.out).at_ hlt
      cases hb : unitB l xs with
      | true =>
        have hi := findIdx_hit HF.out hx.out hb
        have hg : L.getD k [] = xs := by rw [List.getD_eq_getElem?_getD, hx.out]; rfl
        have hU : nextU l L = k := by rw [nextU, idxP, hi]
        have hS : nextS l L = unitU l xs := by rw [nextS, hi]; simp only [hg]
        have HU := Lib.hid hU
        have HS := Lib.hid hS
        clear hi hg hU hS
        go_wp2_with (go_at_call 29; (with_reducible refine (rUnit_c _ _ _ l _ _ _ xs _ (h'.ext HX.out) hrow).mono ?_); rintro e w' ⟨rfl, hx'⟩; have HX' := Lib.hid hx'; clear hx')
        go_ret3
        exact ⟨_, _, _, rfl, HS.out.symm, by rw [HU.out, if_pos (by omega)], by rw [HU.out, decide_eq_true (by omega)], HX.out.trans HX'.out⟩
      | false =>
        go_wp2_with (go_at_call 29; (with_reducible refine (rUnit_c _ _ _ l _ _ _ xs _ (h'.ext HX.out) hrow).mono ?_); rintro e w' ⟨rfl, hx'⟩; have HX' := Lib.hid hx'; clear hx')
        go_roundw
        case rel => exact ⟨k + 1, by omega, by go_num, findIdx_snoc_none HF.out hx.out hb, HX.out.trans HX'.out⟩
        case measure => simp [intOf]; omega
    · have hf := HF.out
      rw [take_len_of h.1 hlt] at hf
      have hU : nextU l L = -1 := by rw [nextU, idxP, hf]
      have hS : nextS l L = 0 := by rw [nextS, hf]
      have HU := Lib.hid hU
      have HS := Lib.hid hS
      clear hf hU hS
      go_wp2
      go_ret3
      exact ⟨_, _, _, rfl, HS.out.symm, by rw [HU.out]; rfl, by rw [HU.out]; rfl, HX.out⟩
end Go.Proofs.Ythkjcdkdfeckbaa
