/- replevinref01.Of; what Flip does at a place. -/
import Derived.Test.YtdhohoabcokdjaaRat3
import Derived.Test.YtdhohoabcokdjaaCnf2
set_option maxRecDepth 100000
namespace Go.Proofs.Ytdhohoabcokdjaa
open Go.RowKit

def yesY (xs : List Int) (v : Int) : Bool := xs.any fun x => varV x == v && sideV x
def noY (xs : List Int) (v : Int) : Bool := xs.any fun x => varV x == v && !sideV x
theorem yesY_snoc (xs : List Int) (x v : Int) : yesY (xs ++ [x]) v = (yesY xs v || (varV x == v && sideV x)) := by simp [yesY, List.any_append]
theorem noY_snoc (xs : List Int) (x v : Int) : noY (xs ++ [x]) v = (noY xs v || (varV x == v && !sideV x)) := by simp [noY, List.any_append]
def ofY (xs : List Int) (v : Int) : Int := if yesY xs v then (if noY xs v then 2 else 1) else if noY xs v then -1 else 0

set_option maxHeartbeats 1000000 in
theorem rOfY_c (A : Option Addr) (n c : Nat) (xs : List Int) (v : Int) (w : World) (h : IntSl w A n xs) (h1 : 1 ≤ v) (h2 : v ≤ 100000) :
    Calls Try.prog 32 #[.slice A n c, .int .i64 v] w fun e w' => e = .returned (.int .i64 (ofY xs v)) ∧ w = w' := by
  have hn := h.len
  go_enter Try.func32, Try.ntmps32
  go_wp2
  go_loop [5, 6, 7] (fun y m i => ∃ k : Nat, k ≤ n ∧ i = .int .i64 k ∧ y = .bool (yesY (xs.take k) v) ∧ m = .bool (noY (xs.take k) v)) (fun _ _ i => n - (intOf i).toNat)
  case atStart => exact ⟨0, Nat.zero_le _, rfl, rfl, rfl⟩
  case round =>
    obtain ⟨k, hk, rfl, rfl, rfl⟩ := hrel
    by_cases hlt : k < n
    · obtain ⟨ad, x, rfl, hx, hc, hx1, hx2⟩ := h.at_ hlt
      go_wp2_with (go_at_call 57; refine (rSplit_c _ _).mono ?_; rintro e w' ⟨rfl, rfl⟩)
      all_goals
        go_round
        case rel => exact ⟨k + 1, by omega, by go_num, by rw [take_succ_of hx.out, yesY_snoc]; simp [*], by rw [take_succ_of hx.out, noY_snoc]; simp [*]⟩
        case measure => simp [intOf]; omega
    · have e := take_len_of h.1 hlt
      have e' := Lib.hid e
      clear e
      go_wp2
      all_goals
        go_ret
        refine ⟨ret_int ?_, rfl⟩
        rw [e'.out] at *
        simp [ofY, *]

/-- What stands at a place behind a flip. -/
theorem flip_get {m : List Bool} {j : Nat} (hj : j < m.length) (v : Int) (hv : v = (j : Int) + 1) (hv2 : v ≤ 100000) : ∀ xs : List Int, ∃ b, (flipV m xs)[j]? = some b ∧ (yesY xs v = false → noY xs v = false → m[j]? = some b) ∧ (yesY xs v = true → noY xs v = false → b = true) ∧ (yesY xs v = false → noY xs v = true → b = false) := by
  refine foldl_snoc_ind ?_ ?_
  · exact ⟨m[j], List.getElem?_eq_getElem hj, fun _ _ => List.getElem?_eq_getElem hj, fun h => by simp [yesY] at h, fun _ h => by simp [noY] at h⟩
  · intro xs x ih
    obtain ⟨b, h1, h2, h3, h4⟩ := ih
    have hlen : (flipV m xs).length = m.length := flipV_len xs m
    rw [flipV_snoc, yesY_snoc, noY_snoc]
    have hb := varV_bd x
    by_cases e : varV x = v
    · have hx0 := varV_pos (l := x) (by omega)
      have hs : sideV x = decide (0 < x) := side_pos hx0.2.2
      have hf : flip1 (flipV m xs) x = (flipV m xs).set j (decide (0 < x)) := by
        unfold flip1
        rw [e, if_pos ⟨by omega, by rw [hlen]; omega⟩, show (v - 1).toNat = j by omega]
      refine ⟨decide (0 < x), by rw [hf, List.getElem?_set_self (by rw [hlen]; exact hj)], ?_, ?_, ?_⟩
      · intro ha hc; exfalso; rw [hs] at ha hc; simp [e] at ha hc; omega
      · intro ha hc; rw [hs] at hc; simp [e] at hc; simp; omega
      · intro ha hc; rw [hs] at ha; simp [e] at ha; simp; omega
    · have hne : (varV x == v) = false := by simpa using e
      have hf : (flip1 (flipV m xs) x)[j]? = some b := by
        unfold flip1
        split
        · rename_i hr
          rw [List.getElem?_set_ne (by omega)]; exact h1
        · exact h1
      refine ⟨b, hf, ?_, ?_, ?_⟩ <;> simp only [hne, Bool.false_and, Bool.or_false]
      · exact h2
      · exact h3
      · exact h4
theorem flip_of {m : List Bool} {j : Nat} (hj : j < m.length) (v : Int) (hv : v = (j : Int) + 1) (hv2 : v ≤ 100000) (xs : List Int) {b bm : Bool} (hb : (flipV m xs)[j]? = some b) (hm : m[j]? = some bm) :
    (ofY xs v = 0 ∧ b = bm) ∨ (ofY xs v = 1 ∧ b = true) ∨ (ofY xs v = -1 ∧ b = false) ∨ ofY xs v = 2 := by
  obtain ⟨b', h1, h2, h3, h4⟩ := flip_get hj v hv hv2 xs
  rw [hb] at h1
  cases h1
  unfold ofY
  cases hy : yesY xs v <;> cases hn : noY xs v
  · exact Or.inl ⟨rfl, by have := h2 hy hn; rw [hm] at this; cases this; rfl⟩
  · exact Or.inr (Or.inr (Or.inl ⟨rfl, h4 hy hn⟩))
  · exact Or.inr (Or.inl ⟨rfl, h3 hy hn⟩)
  · exact Or.inr (Or.inr (Or.inr rfl))

/-! ### candidates, counted -/
theorem candL_more (p : Int) (L : List (List Int)) (k : Nat) : ∀ d, ∃ r, candL p L (k + d) = candL p L k ++ r
  | 0 => ⟨[], by simp⟩
  | d + 1 => by
    obtain ⟨r, hr⟩ := candL_more p L k d
    exact ⟨_, by rw [← Nat.add_assoc, candL_succ, hr, List.append_assoc]⟩
theorem candV_at {p : Int} {L : List (List Int)} {k : Nat} (hk : k < L.length) (h : has2V (L.getD k []) (negV p) = true) : (candV p L)[(candL p L k).length]? = some (k : Int) := by
  obtain ⟨r, hr⟩ := candL_more p L (k + 1) (L.length - (k + 1))
  rw [show k + 1 + (L.length - (k + 1)) = L.length by omega, candL_succ, if_pos h] at hr
  unfold candV
  rw [hr, List.append_assoc, List.getElem?_append_right (Nat.le_refl _), Nat.sub_self]
  rfl
theorem cand_test (p : Int) (c : List Int) : (decide (0 ≤ indexV p) && hasV c (-p)) = has2V c (negV p) := by
  have hi := varV_index p
  by_cases hp : varV p = 0
  · have hn : negV p = 0 := by
      revert hp; unfold varV negV; (repeat (first | omega | split))
    rw [decide_eq_false (by omega), hn]; rfl
  · have hb := varV_pos hp
    have hn : negV p = -p := by unfold negV; rw [if_pos (by omega)]
    have hv : varV (-p) ≠ 0 := by revert hp; unfold varV; (repeat (first | omega | split))
    unfold has2V
    rw [decide_eq_true (by omega), hn, decide_eq_true hv]
theorem show_none {L : List (List Int)} {p : Int} {xs : List Int} (h : candV p L = []) : ratShow L (p :: xs) [] (fun _ => none) = (0, 0) ∨ ratShow L (p :: xs) [] (fun _ => none) = (-1, 10) ∨ ratShow L (p :: xs) [] (fun _ => none) = (-1, 11) := by
  unfold ratShow
  by_cases he : startE (p :: xs) = 0
  · left
    rw [if_neg (by rw [he]; decide), if_neg (by simp)]
    show (if (23 : Int) ≠ 23 then _ else _) = _
    rw [if_neg (by decide)]
    show (match (candV p L).find? _ with | some i => (i, 24) | none => (((candV p L).length : Int), (0 : Int))) = _
    rw [h]; rfl
  · rw [if_pos he]
    have : startE (p :: xs) = 10 ∨ startE (p :: xs) = 11 := by
      revert he; unfold startE; split
      · simp
      · split <;> simp
    rcases this with e | e <;> rw [e] <;> simp
end Go.Proofs.Ytdhohoabcokdjaa
