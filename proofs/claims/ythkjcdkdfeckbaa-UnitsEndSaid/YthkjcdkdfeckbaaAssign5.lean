/- Layer 3 (assign): are literals an assignment? -/
import Derived.Test.YthkjcdkdfeckbaaAssign1
import Derived.BigQuiet
namespace Go.Proofs.Ythkjcdkdfeckbaa
open Go.RowKit Go.Maps

/-- Is a number there that is no literal of v variables? -/
def badL (l : List Int) (v : Int) : Bool := l.any fun x => decide (checkV x v ≠ 0)
theorem badL_snoc {l : List Int} {x v : Int} (h : badL l v = false) (hx : checkV x v = 0) : badL (l ++ [x]) v = false := by
  unfold badL at h ⊢; rw [List.any_append, h]; simp [hx]
theorem badL_hit {l : List Int} {k : Nat} {x v : Int} (h : l[k]? = some x) (hx : checkV x v ≠ 0) : badL l v = true := by
  rw [badL, List.any_eq_true]; exact ⟨x, List.mem_iff_getElem?.2 ⟨k, h⟩, by simpa using hx⟩
/-- Are literals an assignment? -/
def assignV (l : List Int) (v : Int) : Int := if v < 0 ∨ 100000 < v then 2 else if badL l v then 10 else if (l.map varV).Nodup then 0 else 21
theorem assignV_arg {l : List Int} {v : Int} (h : v < 0 ∨ 100000 < v) : assignV l v = 2 := by rw [assignV, if_pos h]
theorem assignV_lit {l : List Int} {v : Int} (h : ¬ (v < 0 ∨ 100000 < v)) (hb : badL l v = true) : assignV l v = 10 := by rw [assignV, if_neg h, if_pos hb]
theorem assignV_ok {l : List Int} {v : Int} (h : ¬ (v < 0 ∨ 100000 < v)) (hb : badL l v = false) (hn : (l.map varV).Nodup) : assignV l v = 0 := by rw [assignV, if_neg h, if_neg (by simp [hb]), if_pos hn]
theorem assignV_dup {l : List Int} {v : Int} (h : ¬ (v < 0 ∨ 100000 < v)) (hb : badL l v = false) (hn : ¬ (l.map varV).Nodup) : assignV l v = 21 := by rw [assignV, if_neg h, if_neg (by simp [hb]), if_neg hn]
theorem checkV_ok {x v : Int} (h : checkV x v = 0) : x ≠ 0 ∧ -100000 ≤ x ∧ x ≤ 100000 ∧ varV x ≠ 0 ∧ (varV x = x ∨ varV x = -x) := by
  revert h; unfold checkV varV; (repeat (first | omega | split))
theorem varV_abs {x y : Int} (hx : varV x ≠ 0) : varV y = varV x ↔ (y = x ∨ y = -x) := by
  revert hx; unfold varV; (repeat (first | omega | split))
theorem nodup_snoc {xs : List Int} {y : Int} : (xs ++ [y]).Nodup ↔ xs.Nodup ∧ y ∉ xs := by
  rw [List.nodup_append]; simp
  intro _; constructor
  · intro h hy; exact h y hy rfl
  · intro h a ha e; exact h (e ▸ ha)
theorem dup_count {xs : List Int} {y m : Int} (h : m ≤ 1 ↔ xs.Nodup) : max m (cntV (xs ++ [y]) y) ≤ 1 ↔ (xs ++ [y]).Nodup := by
  rw [nodup_snoc, ← h]
  have e : cntV (xs ++ [y]) y = cntV xs y + 1 := by unfold cntV; simp [List.count_append]
  have hb := (cntV_bd xs y).1
  have hm : cntV xs y = 0 ↔ y ∉ xs := by unfold cntV; rw [← List.count_eq_zero]; omega
  rw [e, ← hm]
  omega

set_option maxHeartbeats 2000000 in
theorem acheck_c (A : Option Addr) (n c : Nat) (l : List Int) (v : Int) (w : World) (h : IntSl w A n l) (hsm : n ≤ 1000000000000) (_hv1 : -9223372036854775808 ≤ v) (_hv2 : v ≤ 9223372036854775807) :
    Calls Try.prog 30 #[.slice A n c, .int .i64 v] w fun e w' => e = .returned (.int .i64 (assignV l v)) ∧ Ext w w' := by
  have hmm := fun (n : Int) (W : World) => run_makeMap_hint (P := Try.prog) 67 3 3 .i64 n Try.underlying67 W
  by_cases hv : v < 0 ∨ 100000 < v
  · have HV := Lib.hid (assignV_arg (l := l) hv)
    rcases hv with hv | hv
    all_goals
      go_enter Try.func30, Try.ntmps30
      go_wp2
    all_goals
      first
        | (exfalso; omega)
        | (go_ret; exact ⟨ret_int HV.out.symm, Ext.refl w⟩)
  · have hv1 : ¬ v < 0 := by omega
    have hv2 : ¬ 100000 < v := by omega
    have HV := Lib.hid hv
    clear hv
    go_enter Try.func30, Try.ntmps30
    go_wp2
    go_loopw [6, 20] (fun s i wr => ∃ (k : Nat) (m : Int) (cs : List Int), cs = (l.take k).map varV ∧ k ≤ n ∧ i = .int .i64 k ∧ s = .int .i64 m ∧ badL (l.take k) v = false ∧ (m ≤ 1 ↔ cs.Nodup) ∧ Cnt wr w.heap.size k (cntV cs) ∧ Ext w wr) (fun _ i _ => n - (intOf i).toNat)
    case atStart => exact ⟨0, 0, [], rfl, Nat.zero_le _, rfl, rfl, rfl, by simp, by rw [cntV_nil]; exact (Cnt.made w), (Ext.refl _).alloc _⟩
    case round =>
      obtain ⟨k, m, cs, hcs, hk, rfl, rfl, hb, hm, hc, hx⟩ := hrel
      have hbl : cs.length ≤ k := by rw [hcs, List.length_map]; exact List.length_take_le _ _
      have HCS := Lib.hid hcs
      clear hcs
      have HB := Lib.hid hb
      have HM := Lib.hid hm
      have HC := Lib.hid hc
      have HX := Lib.hid hx
      clear hb hm hc hx
      by_cases hlt : k < n
      · obtain ⟨ad, x, rfl, hx, hcx, hx1, hx2⟩ := (h.ext HX.out).at_ hlt
        have HT := Lib.hid (take_succ_of hx.out)
        by_cases hck : checkV x v = 0
        · have HCK := Lib.hid hck
          have hckb : (checkV x v != 0) = false := by simpa using hck
          clear hck
          have hbd := cntV_bd cs (varV x)
          have hb1 := hbd.1
          have hb2 : cntV cs (varV x) ≤ 1000000000000 := by omega
          clear hbd hbl
          have hvb := varV_bd x
          obtain ⟨hvb1, hvb2⟩ := hvb
          go_wp2_with (first
            | (go_at_call 63; refine (litCheck_c _ _ _).mono ?_; rintro e w' ⟨rfl, rfl⟩)
            | (go_at_call 62; refine (var_c _ _).mono ?_; rintro e w' ⟨rfl, rfl⟩)
            | (at_lookup; first | (refine wpList_look _ rfl _ _ rfl _ _ _ rfl HC2.out _ rfl (by omega) ?_) | (refine wpList_look _ rfl _ _ rfl _ _ _ rfl HC.out _ rfl (by omega) ?_))
            | (at_mapUpdate; refine wpList_setm _ rfl _ _ _ rfl _ _ _ rfl HC.out (by omega) _ _ rfl rfl (by omega) (by omega) ?_; intro w2 hc2 hg2; rw [cntV_snoc] at hc2; have HC2 := Lib.hid hc2; have HG2 := Lib.hid hg2; clear hc2 hg2))
          go_roundw
          case rel =>
            refine ⟨k + 1, _, cs ++ [varV x], by rw [HT.out, List.map_append, HCS.out]; rfl, by omega, by go_num, rfl, by rw [HT.out]; exact badL_snoc HB.out HCK.out, ?_, HC2.out, HX.out.grown HG2.out (fun j hj => by cases hj; exact Nat.le_refl _)⟩
            rw [← dup_count (y := varV x) HM.out]
            rw [Int.max_def]
            (repeat (first | omega | split))
          case measure => simp [intOf]; omega
        · have HCK := Lib.hid (assignV_lit HV.out (badL_hit hx.out hck))
          have hckb : (checkV x v != 0) = true := by simpa using hck
          clear hck
          go_wp2_with (go_at_call 63; refine (litCheck_c _ _ _).mono ?_; rintro e w' ⟨rfl, rfl⟩)
          go_ret
          exact ⟨ret_int HCK.out.symm, HX.out⟩
      · have hb := HB.out
        have hm := HM.out
        rw [HCS.out] at hm
        rw [take_len_of h.1 hlt] at hb hm
        by_cases h1 : 1 < m
        · have HR := Lib.hid (assignV_dup HV.out hb (fun e => by have := hm.2 e; omega))
          clear hb hm
          go_wp2
          go_ret
          exact ⟨ret_int HR.out.symm, HX.out⟩
        · have HR := Lib.hid (assignV_ok HV.out hb (hm.1 (by omega)))
          clear hb hm
          go_wp2
          go_ret
          exact ⟨ret_int HR.out.symm, HX.out⟩
end Go.Proofs.Ythkjcdkdfeckbaa
