/- Layer 22 (brute), the reference: Check, Next. -/
import Derived.Test.YtdiapihfjmbgoaaRCk
import Derived.Test.YtdiapihfjmbgoaaBr15
set_option maxRecDepth 100000
namespace Go.Proofs.Ytdiapihfjmbgoaa
open Go.RowKit

/-- replevinref22.Check. -/
theorem r22Check_c (v : Int) (A : Option Addr) (n c : Nat) (L : List (List Int)) (w : World) (h : RowsW w A n L) :
    Calls Try.prog 11 #[.agg #[.int .i64 v, .slice A n c]] w fun e w' => e = .returned (.int .i64 (bCheckV v L)) ∧ Ext w w' := by
  have hX := (Ext.refl w).alloc (Obj.cells #[.int .i64 v, .slice A n c] 24)
  have HB := Lib.hid (Blk.new w 24 #[.int .i64 v, .slice A n c])
  have HX := Lib.hid hX
  have HR := Lib.hid (h.ext hX)
  clear h hX
  by_cases he : (fCheckV v L).2 ≠ 0
  · have HV : Hid (bCheckV v L = (fCheckV v L).2) := by unfold Hid bCheckV; rw [if_pos he]
    have hne : ((fCheckV v L).2 == 0) = false := by simpa using he
    clear he
    go_enter Try.func11, Try.ntmps11
    go_wp2_with fail
    refine (r4Check_c v _ _ _ L _ HR.out).mono ?_
    rintro e w1 ⟨rfl, hx1⟩
    have HX1 := Lib.hid (HX.out.trans hx1)
    clear hx1
    generalize (fCheckV v L).2 = y at hne HV
    go_wp2
    go_ret
    exact ⟨ret_int HV.out.symm, HX1.out⟩
  · have he0 : (fCheckV v L).2 = 0 := by omega
    have HE := Lib.hid he0
    by_cases h16 : 16 < v
    · have HV : Hid (bCheckV v L = 3) := by unfold Hid bCheckV; rw [if_neg he, if_pos h16]
      clear he he0
      go_enter Try.func11, Try.ntmps11
      go_wp2_with fail
      refine (r4Check_c v _ _ _ L _ HR.out).mono ?_
      rintro e w1 ⟨rfl, hx1⟩
      have a0 := (HB.out.ext hx1).cell 0
      have HX1 := Lib.hid (HX.out.trans hx1)
      clear hx1
      rw [HE.out]
      go_wp2
      go_ret
      exact ⟨ret_int HV.out.symm, HX1.out⟩
    · have HV : Hid (bCheckV v L = 0) := by unfold Hid bCheckV; rw [if_neg he, if_neg h16]
      clear he he0
      go_enter Try.func11, Try.ntmps11
      go_wp2_with fail
      refine (r4Check_c v _ _ _ L _ HR.out).mono ?_
      rintro e w1 ⟨rfl, hx1⟩
      have a0 := (HB.out.ext hx1).cell 0
      have HX1 := Lib.hid (HX.out.trans hx1)
      clear hx1
      rw [HE.out]
      go_wp2
      go_ret
      exact ⟨ret_int HV.out.symm, HX1.out⟩

/-- The truths that Next has made of the first k. -/
def clrB (m : List Bool) (k : Nat) : List Bool := List.replicate k false ++ m.drop k
theorem clrB_zero (m : List Bool) : clrB m 0 = m := by simp [clrB]
theorem nextB_at : ∀ (m : List Bool) (k : Nat), k < m.length → (∀ j, j < k → m[j]? = some true) → m[k]? = some false → nextB m = some ((clrB m k).set k true)
  | [], k, h, _, _ => by simp at h
  | b :: m, 0, _, _, h2 => by
    simp at h2
    subst h2
    simp [nextB, clrB]
  | b :: m, k + 1, h, h1, h2 => by
    have hb : b = true := by have := h1 0 (by omega); simpa using this
    subst hb
    have := nextB_at m k (by simpa using h) (fun j hj => by have := h1 (j + 1) (by omega); simpa using this) (by simpa using h2)
    simp only [nextB, this, Option.map_some]
    simp [clrB, List.replicate_succ]
theorem nextB_none : ∀ (m : List Bool), (∀ j, j < m.length → m[j]? = some true) → nextB m = none
  | [], _ => rfl
  | b :: m, h => by
    have hb : b = true := by have := h 0 (by simp); simpa using this
    subst hb
    have := nextB_none m (fun j hj => by have := h (j + 1) (by simpa using hj); simpa using this)
    simp [nextB, this]
theorem clrB_set {m : List Bool} {k : Nat} (h : k < m.length) : (clrB m k).set k false = clrB m (k + 1) := by
  apply List.ext_getElem?
  intro j
  unfold clrB
  rw [List.getElem?_set]
  simp only [List.length_append, List.length_replicate, List.length_drop]
  by_cases e : k = j
  · subst e
    rw [if_pos rfl, if_pos (by omega), List.getElem?_append_left (by simp), List.getElem?_replicate, if_pos (by omega)]
  · rw [if_neg e]
    by_cases hj : j < k
    · rw [List.getElem?_append_left (by simpa using hj), List.getElem?_append_left (by simp; omega), List.getElem?_replicate, List.getElem?_replicate, if_pos hj, if_pos (by omega)]
    · rw [List.getElem?_append_right (by simp; omega), List.getElem?_append_right (by simp; omega), List.length_replicate, List.length_replicate, List.getElem?_drop, List.getElem?_drop]
      congr 1
      omega
/-- What Next hands back. -/
def RetNext22 (m : List Bool) (w : World) (e : Ending) (w' : World) : Prop :=
  ∃ A k c ok, e = .returned (.tuple #[.slice A k c, .bool ok]) ∧ Ext w w' ∧ (match nextB m with | some m' => ok = true ∧ RowB w' A k m' | none => ok = false)

set_option maxHeartbeats 2000000 in
theorem r22Next_c (A : Option Addr) (n c : Nat) (m : List Bool) (w : World) (h : BoolSl w A n m) (hsm : n ≤ 1000000) :
    Calls Try.prog 25 #[.slice A n c] w (RetNext22 m w) := by
  have hlen := h.1
  go_enter Try.func25, Try.ntmps25
  go_wp2_with (at_builtin; refine appendNB w rfl _ _ rfl rfl A n c m rfl h (by omega) ?_; intro A' c1 w1 hnb hx1)
  have hml : m.length ≤ 1000000 := by omega
  have HNB0 := Lib.hid hnb
  have HX0 := Lib.hid hx1
  clear hnb hx1
  go_loopw [5] (fun i wr => ∃ k : Nat, k ≤ m.length ∧ i = .int .i64 k ∧ NB wr w.heap.size A' m.length (clrB m k) ∧ (∀ j, j < k → m[j]? = some true) ∧ Ext w wr) (fun i _ => m.length - (intOf i).toNat)
  case atStart => exact ⟨0, Nat.zero_le _, rfl, by rw [clrB_zero]; exact HNB0.out, fun j hj => absurd hj (by omega), HX0.out⟩
  case round =>
    obtain ⟨k, hk, rfl, hnb, hall, hxr⟩ := hrel
    have HNB := Lib.hid hnb
    have HXR := Lib.hid hxr
    have HALL := Lib.hid hall
    clear hnb hxr hall
    by_cases hlt : k < m.length
    · obtain ⟨g, rfl, hgb, cur, hblk, hcur⟩ := HNB.out.2 (by omega)
      have hkl : k < (clrB m k).length := by unfold clrB; simp; omega
      obtain ⟨b, hb⟩ : ∃ b, m[k]? = some b := ⟨_, List.getElem?_eq_getElem hlt⟩
      have hcl : (clrB m k)[k]? = some b := by
        unfold clrB
        rw [List.getElem?_append_right (by simp), List.length_replicate, List.getElem?_drop]
        simpa using hb
      have hck : wr.cell? ⟨g, k, none⟩ = some (.bool b) := by rw [hblk.cell]; exact hcur k _ hcl
      have hfr := hblk.frozen k
      have HBB := Lib.hid hb
      have hki : (k : Int) < (m.length : Int) := by omega
      clear hblk hcur hcl hb cur
      cases b with
      | false =>
        have HV := Lib.hid (nextB_at m k hlt HALL.out HBB.out)
        go_wp2
        go_ret2
        refine ⟨_, _, _, _, rfl, HXR.out.setCell hgb _, ?_⟩
        rw [HV.out]
        obtain ⟨h1, h2⟩ := NB.set (k := k) (b := true) HNB.out hlt
        obtain ⟨g', e, _, cur, hb, hc⟩ := h2 (by omega)
        cases e
        exact ⟨rfl, g, cur, rfl, hb, h1.trans hlen, by omega, hc⟩
      | true =>
        go_wp2
        go_roundw
        case rel =>
          refine ⟨k + 1, by omega, by go_num, ?_, fun j hj => ?_, HXR.out.setCell hgb _⟩
          · rw [← clrB_set hlt]
            exact NB.set HNB.out hlt
          · by_cases e : j = k
            · subst e; exact HBB.out
            · exact HALL.out j (by omega)
        case measure => simp [intOf]; omega
    · have HV := Lib.hid (nextB_none m (fun j hj => HALL.out j (by omega)))
      go_wp2
      go_ret2
      exact ⟨_, _, _, _, rfl, HXR.out, by rw [HV.out]⟩
end Go.Proofs.Ytdiapihfjmbgoaa
