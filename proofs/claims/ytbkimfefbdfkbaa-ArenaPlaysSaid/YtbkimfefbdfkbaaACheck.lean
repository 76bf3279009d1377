/- Layer 3 (assign): are literals an assignment? -/
import Derived.Test.YtbkimfefbdfkbaaAssign1
import Derived.BigQuiet
import Derived.Test.YtbkimfefbdfkbaaApp
import Derived.Test.YtbkimfefbdfkbaaLit
import Derived.Test.YtbkimfefbdfkbaaSl
set_option maxRecDepth 100000
namespace Go.Proofs.Ytbkimfefbdfkbaa
open Go.RowKit Go.Maps

/-- Is a number there that is no literal of v variables? -/
def badL (l : List Int) (v : Int) : Bool := l.any fun x => decide (checkV x v ≠ 0)
theorem badL_snoc {l : List Int} {x v : Int} (h : badL l v = false) (hx : checkV x v = 0) : badL (l ++ [x]) v = false := by
  unfold badL at h ⊢; rw [List.any_append, h]; simp [hx]
theorem badL_hit {l : List Int} {k : Nat} {x v : Int} (h : l[k]? = some x) (hx : checkV x v ≠ 0) : badL l v = true := by
  rw [badL, List.any_eq_true]; exact ⟨x, List.mem_iff_getElem?.2 ⟨k, h⟩, by simpa using hx⟩
/-- Are literals an assignment? -/
def assignV (l : List Int) (v : Int) : Int := if v < 0 ∨ 100000 < v then 2 else if badL l v then 10 else if (l.map varV).Nodup then 0 else 21
theorem assignV_arg {l : List Int} {v : Int} (h : v < 0 ∨ 100000 < v) : assignV l v = 2 := by rw [assignV, if_pos h]
theorem assignV_lit {l : List Int} {v : Int} (h : ¬ (v < 0 ∨ 100000 < v)) (hb : badL l v = true) : assignV l v = 10 := by rw [assignV, if_neg h, if_pos hb]
theorem assignV_ok {l : List Int} {v : Int} (h : ¬ (v < 0 ∨ 100000 < v)) (hb : badL l v = false) (hn : (l.map varV).Nodup) : assignV l v = 0 := by rw [assignV, if_neg h, if_neg (by simp [hb]), if_pos hn]
theorem assignV_dup {l : List Int} {v : Int} (h : ¬ (v < 0 ∨ 100000 < v)) (hb : badL l v = false) (hn : ¬ (l.map varV).Nodup) : assignV l v = 21 := by rw [assignV, if_neg h, if_neg (by simp [hb]), if_neg hn]
theorem checkV_ok {x v : Int} (h : checkV x v = 0) : x ≠ 0 ∧ -100000 ≤ x ∧ x ≤ 100000 ∧ varV x ≠ 0 ∧ (varV x = x ∨ varV x = -x) := by
  revert h; unfold checkV varV; (repeat (first | omega | split))
theorem varV_abs {x y : Int} (hx : varV x ≠ 0) : varV y = varV x ↔ (y = x ∨ y = -x) := by
  revert hx; unfold varV; (repeat (first | omega | split))
theorem nodup_snoc {xs : List Int} {y : Int} : (xs ++ [y]).Nodup ↔ xs.Nodup ∧ y ∉ xs := by
  rw [List.nodup_append]; simp
  intro _; constructor
  · intro h hy; exact h y hy rfl
  · intro h a ha e; exact h (e ▸ ha)
theorem dup_count {xs : List Int} {y m : Int} (h : m ≤ 1 ↔ xs.Nodup) : max m (cntV (xs ++ [y]) y) ≤ 1 ↔ (xs ++ [y]).Nodup := by
  rw [nodup_snoc, ← h]
  have e : cntV (xs ++ [y]) y = cntV xs y + 1 := by unfold cntV; simp [List.count_append]
  have hb := (cntV_bd xs y).1
  have hm : cntV xs y = 0 ↔ y ∉ xs := by unfold cntV; rw [← List.count_eq_zero]; omega
  rw [e, ← hm]
  omega


end Go.Proofs.Ytbkimfefbdfkbaa

/- Layer 3 (assign): the reference's Check. -/
namespace Go.Proofs.Ytbkimfefbdfkbaa
open Go.RowKit Go.Maps

theorem IntSl.take {w : World} {A : Option Addr} {n : Nat} {xs : List Int} (h : IntSl w A n xs) {k : Nat} (hk : k ≤ n) : IntSl w A k (xs.take k) := by
  refine ⟨by rw [List.length_take, h.1]; omega, by have := h.2.1; omega, fun x hx => h.2.2.1 x (List.mem_of_mem_take hx), fun hn => ?_⟩
  obtain ⟨ad, e, hc⟩ := h.2.2.2 (by omega)
  refine ⟨ad, e, fun j x hj => ?_⟩
  rw [List.getElem?_take] at hj
  split at hj
  · exact hc j x hj
  · cases hj

theorem hasV_mem {xs : List Int} {x : Int} : hasV xs x = true ↔ x ∈ xs := by
  rw [hasV, List.any_eq_true]; constructor
  · rintro ⟨y, hy, e⟩; obtain rfl : y = x := by simpa using e
    exact hy
  · intro h; exact ⟨x, h, by simp⟩
theorem mem_vars {xs : List Int} {x v : Int} (h : checkV x v = 0) : varV x ∈ xs.map varV ↔ hasV xs x = true ∨ hasV xs (-x) = true := by
  have hx := (checkV_ok h).2.2.2.1
  rw [hasV_mem, hasV_mem, List.mem_map]
  constructor
  · rintro ⟨y, hy, e⟩
    rcases (varV_abs hx).1 e with rfl | rfl
    · exact Or.inl hy
    · exact Or.inr hy
  · rintro (hy | hy)
    · exact ⟨x, hy, rfl⟩
    · exact ⟨-x, hy, (varV_abs hx).2 (Or.inr rfl)⟩
theorem nodup_takeA {xs : List Int} {k : Nat} (h : ¬ (xs.take k).Nodup) : ¬ xs.Nodup := fun e => h ((List.take_sublist k xs).nodup e)

set_option maxHeartbeats 1000000 in
theorem rACheck_c (A : Option Addr) (n c : Nat) (l : List Int) (v : Int) (w : World) (h : IntSl w A n l) (hc1 : n ≤ c) (hv1 : -9223372036854775808 ≤ v) (hv2 : v ≤ 9223372036854775807) :
    Calls Try.prog 15 #[.slice A n c, .int .i64 v] w fun e w' => e = .returned (.int .i64 (assignV l v)) ∧ Ext w w' := by
  have hn := h.len
  by_cases hv : v < 0 ∨ 100000 < v
  · have HV := Lib.hid (assignV_arg (l := l) hv)
    rcases hv with hv | hv
    all_goals
      go_enter Try.func15, Try.ntmps15
      go_wp2
    all_goals
      first
        | (exfalso; omega)
        | (go_ret; exact ⟨ret_int HV.out.symm, Ext.refl w⟩)
  · have hv3 : ¬ v < 0 := by omega
    have hv4 : ¬ 100000 < v := by omega
    have HV := Lib.hid hv
    clear hv
    go_enter Try.func15, Try.ntmps15
    go_wp2
    go_loopw [5] (fun i wr => ∃ k : Nat, k ≤ n ∧ i = .int .i64 k ∧ badL (l.take k) v = false ∧ Ext w wr) (fun i _ => n - (intOf i).toNat)
    case atStart => exact ⟨0, Nat.zero_le _, rfl, rfl, Ext.refl _⟩
    case round =>
      obtain ⟨k, hk, rfl, hb, hx⟩ := hrel
      have HB := Lib.hid hb
      have HX := Lib.hid hx
      clear hb hx
      by_cases hlt : k < n
      · obtain ⟨ad, x, rfl, hx, hcx, hx1, hx2⟩ := (h.ext HX.out).at_ hlt
        have HT := Lib.hid (take_succ_of hx.out)
        by_cases hck : checkV x v = 0
        · have HCK := Lib.hid hck
          have hckb : (checkV x v != 0) = false := by simpa using hck
          clear hck
          go_wp2_with (go_at_call 49; refine (rCheck_c _ _ _).mono ?_; rintro e w' ⟨rfl, rfl⟩)
          go_roundw
          case rel => exact ⟨k + 1, by omega, by go_num, by rw [HT.out]; exact badL_snoc HB.out HCK.out, HX.out⟩
          case measure => simp [intOf]; omega
        · have HCK := Lib.hid (assignV_lit HV.out (badL_hit hx.out hck))
          have hckb : (checkV x v != 0) = true := by simpa using hck
          clear hck
          go_wp2_with (go_at_call 49; refine (rCheck_c _ _ _).mono ?_; rintro e w' ⟨rfl, rfl⟩)
          go_ret
          exact ⟨ret_int HCK.out.symm, HX.out⟩
      · have hb := HB.out
        rw [take_len_of h.1 hlt] at hb
        have HB := Lib.hid hb
        clear hb
        go_wp2
        go_loopw [6] (fun i wr => ∃ k : Nat, k ≤ n ∧ i = .int .i64 k ∧ ((l.map varV).take k).Nodup ∧ Ext w wr) (fun i _ => n - (intOf i).toNat)
        case atStart => exact ⟨0, Nat.zero_le _, rfl, by simp, HX.out⟩
        case round =>
          obtain ⟨i, hi, rfl, hm, hx⟩ := hrel
          have HM := Lib.hid hm
          have HX := Lib.hid hx
          clear hm hx
          by_cases hlt : i < n
          · obtain ⟨ad, x, rfl, hx, hcx, hx1, hx2⟩ := (h.ext HX.out).at_ hlt
            have HI := Lib.hid ((h.ext HX.out).take hi)
            have hck : checkV x v = 0 := by
              have := HB.out
              rw [badL, List.any_eq_false] at this
              simpa using this x (List.mem_of_getElem? hx.out)
            have hnx : -9223372036854775807 ≤ x := by have := (checkV_ok hck).2.1; omega
            have HCK := Lib.hid hck
            clear hck
            have hmv : (l.map varV)[i]? = some (varV x) := by rw [List.getElem?_map, hx.out]; rfl
            have HMV := Lib.hid (take_succ_of hmv)
            clear hmv
            have b0 : (0 : Int) ≤ (i : Int) := by omega
            have b1 : (i : Int) < (n : Int) := by omega
            have b2 : (i : Int) ≤ (c : Int) := by omega
            have hin := mem_vars (xs := l.take i) HCK.out
            rw [List.map_take] at hin
            have HIN := Lib.hid hin
            clear hin
            have q1 : ∀ m, Calls Try.prog 50 #[.slice (some ad) i c, .int .i64 x] (wr.drewN m) fun e w' => e = .returned (.bool (hasV (l.take i) x)) ∧ wr.drewN m = w' := fun m => rHas_c _ _ _ (l.take i) _ _ (HI.out.ext ((Ext.refl _).drewN m))
            have q2 : ∀ m, Calls Try.prog 50 #[.slice (some ad) i c, .int .i64 (-x)] (wr.drewN m) fun e w' => e = .returned (.bool (hasV (l.take i) (-x))) ∧ wr.drewN m = w' := fun m => rHas_c _ _ _ (l.take i) _ _ (HI.out.ext ((Ext.refl _).drewN m))
            cases hh1 : hasV (l.take i) x with
            | true =>
              rw [hh1] at q1
              clear q2
              have HR := Lib.hid (assignV_dup HV.out HB.out (fun e => nodup_takeA (k := i + 1) (by rw [HMV.out, nodup_snoc]; exact fun h => h.2 (HIN.out.2 (Or.inl hh1))) e))
              go_wp2
              go_quiet ((go_at_call 50; exact quiet_left (q1 _)))
              go_wp2
              go_ret
              exact ⟨ret_int HR.out.symm, HX.out.drewN _⟩
            | false =>
              rw [hh1] at q1
              cases hh2 : hasV (l.take i) (-x) with
              | true =>
                rw [hh2] at q2
                have HR := Lib.hid (assignV_dup HV.out HB.out (fun e => nodup_takeA (k := i + 1) (by rw [HMV.out, nodup_snoc]; exact fun h => h.2 (HIN.out.2 (Or.inr hh2))) e))
                go_wp2
                go_quiet ((go_at_call 50; first | with_reducible exact quiet_left (q1 _) | with_reducible exact quiet_add_left (q2 _) | with_reducible exact quiet_left (q2 _)))
                go_wp2
                go_ret
                exact ⟨ret_int HR.out.symm, HX.out.drewN _⟩
              | false =>
                rw [hh2] at q2
                go_wp2
                go_quiet ((go_at_call 50; first | with_reducible exact quiet_left (q1 _) | with_reducible exact quiet_add_left (q2 _) | with_reducible exact quiet_left (q2 _)))
                go_wp2
                go_roundw
                case rel => exact ⟨i + 1, by omega, by go_num, by rw [HMV.out, nodup_snoc]; exact ⟨HM.out, fun h => by rcases HIN.out.1 h with e | e <;> simp [hh1, hh2] at e⟩, HX.out.drewN _⟩
                case measure => simp [intOf]; omega
          · have hm := HM.out
            rw [take_len_of (by rw [List.length_map]; exact h.1) hlt] at hm
            have HR := Lib.hid (assignV_ok HV.out HB.out hm)
            clear hm
            go_wp2
            go_ret
            exact ⟨ret_int HR.out.symm, HX.out⟩
end Go.Proofs.Ytbkimfefbdfkbaa
