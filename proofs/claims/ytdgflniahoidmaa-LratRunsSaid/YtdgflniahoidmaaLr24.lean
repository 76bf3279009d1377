/- Layer 11's law LratRuns, in plain Lean: what is satisfiable stays so, and six variables show it. -/
import Derived.Test.YtdgflniahoidmaaLr23
import Derived.Test.YtdgflniahoidmaaCnf4
set_option maxRecDepth 100000
namespace Go.Proofs.Ytdgflniahoidmaa
open Go.RowKit

theorem mostV_mem {c : List Int} {x : Int} : x ∈ c → varV x ≤ mostV c := by
  refine foldl_snoc_ind (P := fun c => x ∈ c → varV x ≤ mostV c) (fun h => by cases h) (fun xs y ih h => ?_) c
  rw [mostV_snoc]
  rcases List.mem_append.1 h with h | h
  · have := ih h; omega
  · rw [List.mem_singleton.1 h]; omega
theorem withV_mem {M : List (List Int)} : ∀ {v : Int} {c : List Int}, c ∈ M → mostV c ≤ withV v M := by
  induction M with
  | nil => intro v c h; cases h
  | cons d M ih =>
    intro v c h
    have e : withV v (d :: M) = withV (max v (mostV d)) M := rfl
    rw [e]
    rcases List.mem_cons.1 h with h | h
    · subst h
      have := (withV_le M (max v (mostV c))).1
      omega
    · exact ih h
theorem lit_take {m : List Bool} {n : Nat} {x : Int} (hx : varV x ≤ n) (hn : n ≤ m.length) : litHolds (m.take n) x = litHolds m x := by
  unfold litHolds
  by_cases h0 : varV x = 0
  · rw [h0]; rfl
  · have hb := varV_bd x
    congr 2
    unfold truthV
    rw [List.length_take, decide_eq_true (by omega), decide_eq_true (by omega)]
    congr 1
    rw [List.getD_eq_getElem?_getD, List.getD_eq_getElem?_getD, List.getElem?_take_of_lt (by omega)]
theorem holds_take {c : List Int} {m : List Bool} {n : Nat} (hc : ∀ x ∈ c, varV x ≤ n) (hn : n ≤ m.length) : holdsV c (m.take n) = holdsV c m := by
  unfold holdsV
  rw [Bool.eq_iff_iff, List.any_eq_true, List.any_eq_true]
  constructor
  · rintro ⟨x, hx, h⟩; exact ⟨x, hx, by rw [← lit_take (hc x hx) hn]; exact h⟩
  · rintro ⟨x, hx, h⟩; exact ⟨x, hx, by rw [lit_take (hc x hx) hn]; exact h⟩
theorem bits11_of : ∀ m : List Bool, ∃ i, i < 2 ^ m.length ∧ bits11 i m.length = m
  | [] => ⟨0, by decide, rfl⟩
  | b :: t => by
    obtain ⟨i, hi, e⟩ := bits11_of t
    refine ⟨2 * i + b.toNat, ?_, ?_⟩
    · rw [List.length_cons, Nat.pow_succ]
      cases b <;> simp <;> omega
    · rw [List.length_cons]
      unfold bits11 at e ⊢
      rw [List.range_succ_eq_map, List.map_cons, List.map_map]
      congr 1
      · rw [Nat.testBit_zero]
        cases b <;> simp <;> omega
      · rw [← e]
        rw [e]
        conv => rhs; rw [← e]
        apply List.map_congr_left
        intro j _
        show (2 * i + b.toNat).testBit (j + 1) = i.testBit j
        rw [Nat.testBit_succ]
        congr 1
        cases b <;> simp <;> omega
theorem cnt_pos {L : List (List Int)} {n N : Nat} (h : 0 < cnt11 L n N) : ∃ i, i < N ∧ firstV L (bits11 i n) < 0 := by
  unfold cnt11 at h
  obtain ⟨i, hi, e⟩ := List.countP_pos_iff.1 h
  exact ⟨i, List.mem_range.1 hi, by simpa using e⟩
theorem models_sat {L : List (List Int)} {n : Nat} (hn : n ≤ 6) (h : 0 < cnt11 L n (2 ^ n)) : Sat11 (newS L).rows ∧ (newS L).done = false := by
  obtain ⟨i, _, e⟩ := cnt_pos h
  exact newS_sat (by rw [bits11_len]; omega) e
theorem sat_models {R : List (Int × List Int)} (h : Sat11 R) (hv : withV 0 (R.map (·.2)) ≤ 6) : 0 < cnt11 (R.map (·.2)) 6 64 := by
  obtain ⟨m, hm, hh⟩ := h
  obtain ⟨i, hi, e⟩ := bits11_of (m.take 6)
  have hl : (m.take 6).length = 6 := by rw [List.length_take]; omega
  rw [hl] at hi e
  unfold cnt11
  refine List.countP_pos_iff.2 ⟨i, List.mem_range.2 hi, ?_⟩
  rw [decide_eq_true_eq, e, firstV_neg]
  intro c hc
  rw [holds_take (fun x hx => ?_) (by omega)]
  · obtain ⟨p, hp, rfl⟩ := List.mem_map.1 hc
    exact hh p hp
  · have h1 := mostV_mem hx
    have h2 := withV_mem (v := 0) hc
    show varV x ≤ 6
    omega
/-- What holds of the checker ahead of a step. -/
def LawAt (L : List (List Int)) (before k : Nat) (S : CSt) : Prop := Inv11 S ∧ S.rows.length ≤ L.length + k ∧ (0 < before → Sat11 S.rows ∧ S.done = false)
theorem LawAt.step {L : List (List Int)} {before k : Nat} {S : CSt} {s : Stp} (h : LawAt L before k S) (he : stepE S s = 0) : LawAt L before (k + 1) (stepS S s) := by
  refine ⟨h.1.step s, ?_, fun hb => ?_⟩
  · have := stepS_len S s
    have := h.2.1
    omega
  · obtain ⟨h1, h2⟩ := h.2.2 hb
    exact sat_step h.1 s he h1 h2
theorem LawAt.left {L : List (List Int)} {before k : Nat} {S : CSt} (h : LawAt L before k S) (hb : 0 < before) (hv : withV 0 (S.rows.map (·.2)) ≤ 6) : 0 < cnt11 (S.rows.map (·.2)) 6 64 := sat_models (h.2.2 hb).1 hv
theorem WRows.less {w : World} {a base : Nat} {v : Value} {L : List (List Int)} (h : WRows w base v L) (ha : a ≤ base) : WRows w a v L := by
  obtain ⟨vs, h1, h2, h3⟩ := h
  exact ⟨vs, (show OwnV w base 40 1 v vs.length vs from h1).less ha, h2, fun j xs hj => let ⟨u, e1, e2⟩ := h3 j xs hj; ⟨u, e1, e2.less ha⟩⟩
end Go.Proofs.Ytdgflniahoidmaa
