/- Layer 13 (trail), in plain Lean: the literals are an assignment; what going back keeps. -/
import Derived.Test.YtbkimfefbdfkbaaTrail14
import Derived.Test.YtbkimfefbdfkbaaACheck
set_option maxRecDepth 100000
namespace Go.Proofs.Ytbkimfefbdfkbaa
open Go.RowKit

theorem TInv.assign {S : TSt} (h : TInv S) : assignV (litsT S.rows) S.vars = 0 := by
  have h0 := h.v0
  have h1 := h.v1
  refine assignV_ok (by omega) ?_ ?_
  · unfold badL
    rw [List.any_eq_false]
    intro x hx
    obtain ⟨r, hr, rfl⟩ := List.mem_map.1 hx
    simp [h.lits r hr]
  · unfold litsT
    rw [List.map_map]
    exact h.nodup
def NoDup (R : List TRow) : Prop := (R.map fun r => varV r.lit).Nodup
theorem NoDup.inj {R : List TRow} (h : NoDup R) {i j : Nat} {a b : TRow} (hi : R[i]? = some a) (hj : R[j]? = some b) (he : varV a.lit = varV b.lit) : i = j := by
  have hi' : (R.map fun r => varV r.lit)[i]? = some (varV a.lit) := by rw [List.getElem?_map, hi]; rfl
  have hj' : (R.map fun r => varV r.lit)[j]? = some (varV a.lit) := by rw [List.getElem?_map, hj, he]; rfl
  have hli := (List.getElem?_eq_some_iff.1 hi').1
  have hlj := (List.getElem?_eq_some_iff.1 hj').1
  have e1 := (List.getElem?_eq_some_iff.1 hi').2
  have e2 := (List.getElem?_eq_some_iff.1 hj').2
  have hp : List.Pairwise (fun a b => a ≠ b) (R.map fun r => varV r.lit) := h
  rcases Nat.lt_trichotomy i j with hlt | he | hlt
  · exact absurd (e1.trans e2.symm) (List.pairwise_iff_getElem.1 hp i j hli hlj hlt)
  · exact he
  · exact absurd (e2.trans e1.symm) (List.pairwise_iff_getElem.1 hp j i hlj hli hlt)
theorem NoDup.place {R : List TRow} (h : NoDup R) {i : Nat} {a : TRow} (hi : R[i]? = some a) : placeV R (varV a.lit) = (i : Nat) := by
  have e : R.findIdx? (isVar (varV a.lit)) = some i := by
    rw [List.findIdx?_eq_some_iff_getElem]
    have hl := (List.getElem?_eq_some_iff.1 hi).1
    have e1 := (List.getElem?_eq_some_iff.1 hi).2
    refine ⟨hl, by simp [isVar, e1], fun j hj => ?_⟩
    have hjl : j < R.length := by omega
    simp only [isVar, beq_iff_eq]
    intro he
    have := h.inj (List.getElem?_eq_getElem hjl) hi he
    omega
  rw [placeV, idxP, e]
theorem NoDup.row {R : List TRow} (h : NoDup R) {i : Nat} {a : TRow} (hi : R[i]? = some a) : rowOf R (varV a.lit) = some a := by
  unfold rowOf
  have hm := List.mem_of_getElem? hi
  cases e : R.find? (isVar (varV a.lit)) with
  | none =>
    rw [List.find?_eq_none] at e
    exact absurd (by simp [isVar]) (e a hm)
  | some b =>
    have hb := List.mem_of_find?_eq_some e
    have hv : varV b.lit = varV a.lit := by have := List.find?_some e; simpa [isVar] using this
    obtain ⟨j, hj⟩ := List.mem_iff_getElem?.1 hb
    have := h.inj hj hi hv
    subst this
    rw [hi] at hj
    rw [hj]
theorem NoDup.level {R : List TRow} (h : NoDup R) {i : Nat} {a : TRow} (hi : R[i]? = some a) : levelV R (varV a.lit) = a.level ∧ reasonV R (varV a.lit) = a.reason := by
  unfold levelV reasonV
  rw [h.row hi]
  exact ⟨rfl, rfl⟩
theorem TInv.nd {S : TSt} (h : TInv S) : NoDup S.rows := h.nodup
theorem abs_var {l v : Int} (h : checkV l v = 0) : max l (-l) = varV l := by
  have := check_var h
  omega

/-- What is at a place when all above a level went. -/
theorem back_at {S : TSt} (h : TInv S) (c : Int) {i : Nat} {r : TRow} (hi : S.rows[i]? = some r) :
    (i < (upTo S.rows c).length → (upTo S.rows c)[i]? = some r ∧ (litsT (upTo S.rows c))[i]? = some r.lit ∧ levelV (upTo S.rows c) (varV r.lit) = r.level ∧ reasonV (upTo S.rows c) (varV r.lit) = r.reason ∧ placeV (upTo S.rows c) (varV r.lit) = (i : Nat)) ∧
    (¬ i < (upTo S.rows c).length → (litsT (beyond S.rows c)).reverse[S.rows.length - 1 - i]? = some r.lit ∧ valT (upTo S.rows c) (varV r.lit) = 0) := by
  have hs := sorted_split h.sorted c
  have hlen : S.rows.length = (upTo S.rows c).length + (beyond S.rows c).length := by rw [← List.length_append, ← hs]
  have hil := (List.getElem?_eq_some_iff.1 hi).1
  have hsub : (upTo S.rows c).Sublist S.rows := List.filter_sublist
  have hndU : NoDup (upTo S.rows c) := List.Sublist.nodup (hsub.map _) h.nodup
  constructor
  · intro hlt
    have h1 : (upTo S.rows c)[i]? = some r := by
      rw [hs, List.getElem?_append_left hlt] at hi
      exact hi
    exact ⟨h1, by unfold litsT; rw [List.getElem?_map, h1]; rfl, (hndU.level h1).1, (hndU.level h1).2, hndU.place h1⟩
  · intro hge
    have h1 : (beyond S.rows c)[i - (upTo S.rows c).length]? = some r := by
      rw [hs, List.getElem?_append_right (by omega)] at hi
      exact hi
    constructor
    · rw [List.getElem?_reverse (by unfold litsT; rw [List.length_map]; omega)]
      unfold litsT
      rw [List.getElem?_map, List.length_map, show (beyond S.rows c).length - 1 - (S.rows.length - 1 - i) = i - (upTo S.rows c).length by omega, h1]
      rfl
    · unfold valT
      have hn : (upTo S.rows c).find? (valP (varV r.lit)) = none := by
        rw [List.find?_eq_none]
        intro x hx hp
        have hxm := hsub.subset hx
        have hrm := List.mem_of_getElem? hi
        have c1 := check_var (h.lits x hxm)
        have c2 := check_var (h.lits r hrm)
        simp only [valP, Bool.or_eq_true, beq_iff_eq] at hp
        have he : varV x.lit = varV r.lit := by omega
        obtain ⟨j, hj⟩ := List.mem_iff_getElem?.1 hx
        have hjl := (List.getElem?_eq_some_iff.1 hj).1
        have hj2 : S.rows[j]? = some x := by rw [hs, List.getElem?_append_left hjl]; exact hj
        have := h.nd.inj hj2 hi he
        omega
      rw [hn]
theorem upTo_take {R : List TRow} {c : Int} {i : Nat} {r : TRow} (hi : R[i]? = some r) : (upTo (R.take (i + 1)) c).length = (upTo (R.take i) c).length + if r.level ≤ c then 1 else 0 := by
  rw [take_succ_of hi, upTo_snoc, List.length_append]
  split <;> simp
theorem beyond_len {S : TSt} (h : TInv S) (c : Int) : S.rows.length = (upTo S.rows c).length + (beyond S.rows c).length := by
  have hs := sorted_split h.sorted c
  rw [← List.length_append, ← hs]
theorem rises {S : TSt} (h : TInv S) {i : Nat} {a b : TRow} (ha : S.rows[i]? = some a) (hb : S.rows[i + 1]? = some b) : a.level ≤ b.level := by
  have h1 := (List.getElem?_eq_some_iff.1 ha)
  have h2 := (List.getElem?_eq_some_iff.1 hb)
  have := List.pairwise_iff_getElem.1 h.sorted i (i + 1) h1.1 h2.1 (by omega)
  rw [h1.2, h2.2] at this
  exact this
end Go.Proofs.Ytbkimfefbdfkbaa
