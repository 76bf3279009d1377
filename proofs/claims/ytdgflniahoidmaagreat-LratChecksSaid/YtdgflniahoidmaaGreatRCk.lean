/- The reference's checks of clauses and of a formula (replevinref02.Check, replevinref04.Check); rows with their room; a formula by value with its rows' room. -/
import Derived.Test.YtdgflniahoidmaaGreatCnf3
import Derived.Deep.RegionHeld3
import Derived.Test.YtdgflniahoidmaaGreatAssign5
import Derived.Test.YtdgflniahoidmaaGreatOpen2
import Derived.Deep.QuietTactic
import Derived.BigQuiet
set_option maxRecDepth 100000
namespace Go.Proofs.YtdgflniahoidmaaGreat
open Go.RowKit Go.Maps

theorem dedL_app (xs : List Int) : ∀ ys : List Int, (dedL (xs ++ ys)).length ≤ (dedL xs).length + ys.length := by
  intro ys
  refine foldl_snoc_ind (P := fun ys => (dedL (xs ++ ys)).length ≤ (dedL xs).length + ys.length) (by simp) (fun ys y ih => ?_) ys
  rw [← List.append_assoc, dedL_snoc, List.length_append]
  split
  · simp; omega
  · rw [List.length_append]; simp; omega
theorem dedL_full {xs : List Int} {k : Nat} {x : Int} (h : (dedL (xs.take k)).length = k) (hx : xs[k]? = some x) (hn : hasV (xs.take k) x = false) : (dedL (xs.take (k + 1))).length = k + 1 := by
  rw [take_succ_of hx, dedL_snoc, dedL_has, hn, if_neg (by simp), List.length_append, h]; rfl
theorem dedL_less {xs : List Int} {k : Nat} {x : Int} (h : (dedL (xs.take k)).length = k) (hx : xs[k]? = some x) (hn : hasV (xs.take k) x = true) : (dedL xs).length < xs.length := by
  have hk := (List.getElem?_eq_some_iff.1 hx).1
  have e : xs = xs.take (k + 1) ++ xs.drop (k + 1) := (List.take_append_drop _ _).symm
  have h1 := dedL_app (xs.take (k + 1)) (xs.drop (k + 1))
  rw [← e] at h1
  have h2 : (dedL (xs.take (k + 1))).length = k := by rw [take_succ_of hx, dedL_snoc, dedL_has, hn, if_pos rfl, h]
  rw [h2, List.length_drop] at h1
  omega
theorem checkV_okC {x v : Int} (h : checkV x v = 0) : varV x ≠ 0 := by
  revert h; unfold checkV varV; (repeat (first | omega | split))
theorem check_ten {x v : Int} (h0 : 0 ≤ v) (h1 : v ≤ 100000) (h : checkV x v ≠ 0) : checkV x v = 10 := by
  revert h; unfold checkV; (repeat (first | omega | split))

set_option maxHeartbeats 2000000 in
theorem r2Check_c (A : Option Addr) (n c : Nat) (cl : List Int) (v : Int) (w : World) (h : IntSl w A n cl) (hc : n ≤ c) :
    Calls Tryz.prog 39 #[.slice A n c, .int .i64 v] w fun e w' => e = .returned (.int .i64 (cCheckV cl v)) ∧ Ext w w' := by
  have hlen := h.1
  have hn := h.len
  by_cases h1 : v < 0 ∨ 100000 < v
  · have HR : Hid (cCheckV cl v = 2) := by unfold Hid cCheckV; rw [if_pos h1]
    clear hlen
    rcases h1 with h1 | h1
    · go_enter Tryz.func39, Tryz.ntmps39
      go_wp2_with fail
      go_ret
      exact ⟨ret_int HR.out.symm, Ext.refl _⟩
    · have h0 : ¬ v < 0 := by omega
      go_enter Tryz.func39, Tryz.ntmps39
      go_wp2_with fail
      go_ret
      exact ⟨ret_int HR.out.symm, Ext.refl _⟩
  · have h0 : 0 ≤ v := by omega
    have h0' : v ≤ 100000 := by omega
    by_cases h2 : 1000 < n
    · have HR : Hid (cCheckV cl v = 3) := by unfold Hid cCheckV; rw [if_neg h1, if_pos (by omega)]
      clear hlen h1
      go_enter Tryz.func39, Tryz.ntmps39
      go_wp2_with fail
      go_ret
      exact ⟨ret_int HR.out.symm, Ext.refl _⟩
    · have HR : Hid (cCheckV cl v = match badC cl v with | some x => checkV x v | none => if (dedL (seenL cl)).length < n then 21 else 0) := by unfold Hid cCheckV; rw [if_neg h1, if_neg (by omega), hlen]; rfl
      have HL := Lib.hid hlen
      clear hlen h1
      go_enter Tryz.func39, Tryz.ntmps39
      go_wp2_with fail
      go_loop [5] (fun i => ∃ k : Nat, k ≤ n ∧ i = .int .i64 k ∧ (cl.take k).find? (fun x => decide (checkV x v ≠ 0)) = none) (fun i => n - (intOf i).toNat)
      case atStart => exact ⟨0, Nat.zero_le _, rfl, rfl⟩
      case round =>
        obtain ⟨k, hk, rfl, hno⟩ := hrel
        have HN := Lib.hid hno
        clear hno
        by_cases hlt : k < n
        · obtain ⟨ad, x, rfl, hx, hcx, hx1, hx2⟩ := h.at_ hlt
          by_cases hcv : checkV x v = 0
          · have HCV := Lib.hid hcv
            clear hcv
            go_wp2_with (go_at_call 62; refine (rCheck_c _ _ _).mono ?_; rintro e w' ⟨rfl, rfl⟩; rw [HCV.out])
            go_round
            case rel => exact ⟨k + 1, by omega, by go_num, find_snoc_none HN.out hx.out (by simp [HCV.out])⟩
            case measure => simp [intOf]; omega
          · have HB := Lib.hid (find_hit (p := fun x => decide (checkV x v ≠ 0)) HN.out hx.out (by simp [hcv]))
            have H10 := Lib.hid (check_ten h0 h0' hcv)
            have hb : (checkV x v != 0) = true := by simpa using hcv
            clear hcv
            go_wp2_with (go_at_call 62; refine (rCheck_c _ _ _).mono ?_; rintro e w' ⟨rfl, rfl⟩)
            go_ret
            exact ⟨ret_int (by rw [HR.out, badC, HB.out]; exact H10.out.symm), Ext.refl _⟩
        · have hno := HN.out
          rw [take_len_of h.1 hlt] at hno
          have HN2 : Hid (badC cl v = none) := hno
          have hsl : seenL cl = cl := by
            unfold seenL
            rw [List.filter_eq_self]
            intro x hx
            have := (checkV_okC (badC_none hno x hx))
            simpa using this
          have HRR : Hid (cCheckV cl v = if (dedL cl).length < n then 21 else 0) := by unfold Hid; rw [HR.out, HN2.out, hsl]
          clear hno hsl
          go_wp2_with fail
          go_loopw [6] (fun i wr => ∃ k : Nat, k ≤ n ∧ i = .int .i64 k ∧ (dedL (cl.take k)).length = k ∧ Ext w wr) (fun i _ => n - (intOf i).toNat)
          case atStart => exact ⟨0, Nat.zero_le _, rfl, rfl, Ext.refl _⟩
          case round =>
            obtain ⟨q, hq, rfl, hd, hxr⟩ := hrel
            have HD := Lib.hid hd
            have HXR := Lib.hid hxr
            clear hd hxr
            by_cases hlq : q < n
            · obtain ⟨ad, x, rfl, hx, hcx, hx1, hx2⟩ := (h.ext HXR.out).at_ hlq
              have htk : IntSl wr (some ad) q (cl.take q) := (h.ext HXR.out).take (by omega)
              have HT := Lib.hid htk
              have hqc : (q : Int) ≤ (c : Int) := by omega
              have q0 : (0 : Int) ≤ (q : Int) := by omega
              have q1 : (q : Int) < (n : Int) := by omega
              have qh : ∀ j, Calls Tryz.prog 63 #[.slice (some ad) q c, .int .i64 x] (wr.drewN j) fun e w' => e = .returned (.bool (hasV (cl.take q) x)) ∧ wr.drewN j = w' := fun j => rHas_c _ _ _ (cl.take q) x _ (HT.out.ext ((Ext.refl _).drewN j))
              clear htk
              cases hh : hasV (cl.take q) x with
              | true =>
                have HH := Lib.hid hh
                rw [hh] at qh
                clear hh
                go_wp2_with fail
                go_quiet ((go_at_call 63; with_reducible exact quiet_left (qh _)))
                go_wp2_with fail
                go_ret
                have := dedL_less HD.out hx.out HH.out
                exact ⟨ret_int (by rw [HRR.out, if_pos (by rw [← HL.out]; exact this)]), HXR.out.drewN _⟩
              | false =>
                have HH := Lib.hid hh
                rw [hh] at qh
                clear hh
                go_wp2_with fail
                go_quiet ((go_at_call 63; with_reducible exact quiet_left (qh _)))
                go_wp2_with fail
                go_roundw
                case rel => exact ⟨q + 1, by omega, by go_num, dedL_full HD.out hx.out HH.out, HXR.out.drewN _⟩
                case measure => simp [intOf]; omega
            · have e := HD.out
              rw [take_len_of h.1 hlq] at e
              have HE := Lib.hid e
              clear e
              go_wp2_with fail
              go_ret
              exact ⟨ret_int (by rw [HRR.out, if_neg (by have := HE.out; omega)]), HXR.out⟩

/-- A slice of slices that read as the lists L, each with room for its elements. -/
def RowsW (w : World) (A : Option Addr) (n : Nat) (L : List (List Int)) : Prop :=
  L.length = n ∧ n ≤ 9223372036854775807 ∧ (0 < n → ∃ ad, A = some ad ∧ ∀ (j : Nat) (xs : List Int), L[j]? = some xs → ∃ A' n' c', w.cell? (ad.add j) = some (.slice A' n' c') ∧ IntSl w A' n' xs ∧ n' ≤ c')
section
variable {w w' : World} {A : Option Addr} {n : Nat} {L : List (List Int)}
theorem RowsW.ext (h : RowsW w A n L) (hx : Ext w w') : RowsW w' A n L :=
  ⟨h.1, h.2.1, fun hn => let ⟨ad, e, hc⟩ := h.2.2 hn; ⟨ad, e, fun j xs hj => let ⟨A', n', c', h1, h2, h3⟩ := hc j xs hj; ⟨A', n', c', hx.cell h1, h2.ext hx, h3⟩⟩⟩
theorem RowsW.nil (w : World) : RowsW w none 0 [] := ⟨rfl, by decide, fun h => absurd h (by omega)⟩
theorem RowsW.sl (h : RowsW w A n L) : RowsSl w A n L := ⟨h.1, h.2.1, fun hn => let ⟨ad, e, hc⟩ := h.2.2 hn; ⟨ad, e, fun j xs hj => let ⟨A', n', c', h1, h2, _⟩ := hc j xs hj; ⟨A', n', c', h1, h2⟩⟩⟩
theorem RowsW.len (h : RowsW w A n L) : n ≤ 9223372036854775807 := h.2.1
theorem RowsW.at_ (h : RowsW w A n L) {k : Nat} (hk : k < n) :
    ∃ ad xs A' n' c', A = some ad ∧ Hid (L[k]? = some xs) ∧ w.cell? (ad.add k) = some (.slice A' n' c') ∧ IntSl w A' n' xs ∧ Hid (n' ≤ c') := by
  obtain ⟨ad, e, hc⟩ := h.2.2 (by omega)
  have hl : k < L.length := by have := h.1; omega
  have hx : L[k]? = some L[k] := List.getElem?_eq_getElem hl
  obtain ⟨A', n', c', h1, h2, h3⟩ := hc k _ hx
  exact ⟨ad, L[k], A', n', c', e, Lib.hid hx, h1, h2, Lib.hid h3⟩
end
/-- These values are slices that read as these lists, with room. -/
def RowValsW (w : World) : List Value → List (List Int) → Prop
  | [], [] => True
  | v :: vs, xs :: L => (∃ A n c, v = .slice A n c ∧ IntSl w A n xs ∧ n ≤ c) ∧ RowValsW w vs L
  | _, _ => False
theorem RowValsW.at_ {w : World} : ∀ {vs : List Value} {L : List (List Int)} {j : Nat} {xs : List Int}, RowValsW w vs L → L[j]? = some xs → ∃ A n c, vs[j]? = some (.slice A n c) ∧ IntSl w A n xs ∧ n ≤ c
  | [], [], _, _, _, h => by simp at h
  | v :: vs, ys :: L, 0, xs, h, hj => by
    obtain ⟨⟨A, n, c, rfl, hs⟩, _⟩ := h
    obtain rfl : ys = xs := by simpa using hj
    exact ⟨A, n, c, rfl, hs⟩
  | v :: vs, ys :: L, j + 1, xs, h, hj => by
    obtain ⟨A, n, c, h1, h2⟩ := RowValsW.at_ (j := j) (xs := xs) h.2 (by simpa using hj)
    exact ⟨A, n, c, by simpa using h1, h2⟩
theorem RowValsW.nil (w : World) : RowValsW w [] [] := trivial
theorem RowValsW.cons {w : World} {A : Option Addr} {n c : Nat} {xs : List Int} {vs : List Value} {L : List (List Int)} (h : IntSl w A n xs) (hc : n ≤ c) (t : RowValsW w vs L) : RowValsW w (.slice A n c :: vs) (xs :: L) := ⟨⟨A, n, c, rfl, h, hc⟩, t⟩
theorem rowsW_newg {w : World} {g : Nat} (vs : List Value) (T : TypeId) (L : List (List Int)) (n : Nat) (hn : L.length = n) (h2 : n ≤ 9223372036854775807) (hg : w.heap.size = g) (h : RowValsW w vs L) :
    RowsW (w.alloc (.cells vs.toArray T)) (some ⟨g, 0, none⟩) n L := by
  subst hg
  refine ⟨hn, h2, fun _ => ⟨_, rfl, fun j xs hj => ?_⟩⟩
  obtain ⟨A, n', c, h1, h2, h3⟩ := h.at_ hj
  refine ⟨A, n', c, ?_, h2.ext ((Ext.refl w).alloc _), h3⟩
  have e : (⟨w.heap.size, 0, none⟩ : Addr).add j = ⟨w.heap.size, j, none⟩ := by unfold Addr.add; split <;> simp_all
  rw [e, cell_of_row (w.alloc (.cells vs.toArray T)) w.heap.size j vs.toArray T (0, 0) (heap_alloc_new w _)]
  simpa using h1

set_option maxHeartbeats 2000000 in
theorem r4Check_c (v : Int) (A : Option Addr) (n c : Nat) (L : List (List Int)) (w : World) (h : RowsW w A n L) :
    Calls Tryz.prog 23 #[.agg #[.int .i64 v, .slice A n c]] w fun e w' => e = .returned (.tuple #[.int .i64 (fCheckV v L).1, .int .i64 (fCheckV v L).2]) ∧ Ext w w' := by
  have hlen := h.1
  have hn := h.len
  by_cases h1 : v < 0 ∨ 100000 < v
  · have HR : Hid (fCheckV v L = (0, 2)) := by unfold Hid fCheckV; rw [if_pos h1]
    clear hlen
    rcases h1 with h1 | h1
    · go_enter Tryz.func23, Tryz.ntmps23
      go_wp2_with fail
      go_ret2
      exact ⟨by rw [HR.out]; rfl, by (repeat (first | with_reducible exact Ext.refl _ | with_reducible apply Ext.alloc | with_reducible apply Ext.drew | with_reducible apply Ext.drewN | (apply Ext.trans'; assumption)))⟩
    · have h0 : ¬ v < 0 := by omega
      go_enter Tryz.func23, Tryz.ntmps23
      go_wp2_with fail
      go_ret2
      exact ⟨by rw [HR.out]; rfl, by (repeat (first | with_reducible exact Ext.refl _ | with_reducible apply Ext.alloc | with_reducible apply Ext.drew | with_reducible apply Ext.drewN | (apply Ext.trans'; assumption)))⟩
  · have h0 : 0 ≤ v := by omega
    have h0' : v ≤ 100000 := by omega
    by_cases h2 : 1000000 < n
    · have HR : Hid (fCheckV v L = (0, 3)) := by unfold Hid fCheckV; rw [if_neg h1, if_pos (by omega)]
      clear hlen h1
      go_enter Tryz.func23, Tryz.ntmps23
      go_wp2_with fail
      go_ret2
      exact ⟨by rw [HR.out]; rfl, by (repeat (first | with_reducible exact Ext.refl _ | with_reducible apply Ext.alloc | with_reducible apply Ext.drew | with_reducible apply Ext.drewN | (apply Ext.trans'; assumption)))⟩
    · have HR : Hid (fCheckV v L = chkV v L 0) := by unfold Hid fCheckV; rw [if_neg h1, if_neg (by omega)]
      clear hlen h1
      go_enter Tryz.func23, Tryz.ntmps23
      go_wp2_with fail
      go_loopw [4] (fun i wr => ∃ k : Nat, k ≤ n ∧ i = .int .i64 k ∧ chkV v L 0 = chkV v (L.drop k) k ∧ Ext (w.alloc (Obj.cells #[.int .i64 v, .slice A n c] 24)) wr) (fun i _ => n - (intOf i).toNat)
      case atStart => exact ⟨0, Nat.zero_le _, rfl, rfl, Ext.refl _⟩
      case round =>
        obtain ⟨k, hk, rfl, hch, hx⟩ := hrel
        have hX := ((Ext.refl w).alloc (Obj.cells #[.int .i64 v, .slice A n c] 24)).trans hx
        have hf0 := hx.cell ((Blk.new w 24 #[.int .i64 v, .slice A n c]).cell 0)
        have hf1 := hx.cell ((Blk.new w 24 #[.int .i64 v, .slice A n c]).cell 1)
        have HCH := Lib.hid hch
        have HX := Lib.hid hX
        have HXB := Lib.hid hx
        clear hch hx hX
        by_cases hlt : k < n
        · obtain ⟨ad, xs, A1, n1, c1, rfl, hy, hcx, hrow, hroom⟩ := (h.ext HX.out).at_ hlt
          have HD := Lib.hid (dropW_cons hy.out)
          have b0 : (0 : Int) ≤ (k : Int) := by omega
          have b1 : (k : Int) < (n : Int) := by omega
          have hf0 : wr.cell? ⟨w.heap.size, 0, none⟩ = some (.int .i64 v) := hf0
          have hf1 : wr.cell? ⟨w.heap.size, 1, none⟩ = some (.slice (some ad) n c) := hf1
          have HROW := Lib.hid hrow
          clear hrow
          by_cases hcv : cCheckV xs v = 0
          · cases ht : tautV xs with
            | true =>
              have HRR : Hid (fCheckV v L = ((k : Int), 11)) := by unfold Hid; rw [HR.out, HCH.out, HD.out, chkV, if_neg (by simp [hcv]), ht, if_pos rfl]
              have HCV := Lib.hid hcv
              have HT := Lib.hid ht
              clear hcv ht
              go_wp2
              go_region_held3 (fun w' => w'.cell? ⟨w.heap.size, 0, none⟩ = some (.int .i64 v) ∧ w'.cell? ⟨w.heap.size, 1, none⟩ = some (.slice (some ad) n c) ∧ w'.cell? (ad.add k) = some (.slice A1 n1 c1))
                (first | with_reducible assumption | (go_split_ands; refine ⟨?_, ?_, ?_⟩ <;> (repeat (first | with_reducible assumption | (refine Ext.cell ?_ (by assumption)) | with_reducible apply Ext.drew | with_reducible exact Ext.refl _))))
                (first | (go_at_call 39; (with_reducible refine (r2Check_c _ _ _ xs v _ (HROW.out.ext ?_) hroom.out).mono ?_); (repeat (first | with_reducible exact Ext.refl _ | with_reducible apply Ext.alloc | with_reducible apply Ext.drew | with_reducible apply Ext.drewN | (apply Ext.trans'; assumption))); rintro e w1 ⟨rfl, hx1⟩; rw [HCV.out]))
              go_wp2_with (go_at_call 30; (with_reducible refine (rTaut_c _ _ _ xs _ (HROW.out.ext ?_)).mono ?_); (repeat (first | with_reducible exact Ext.refl _ | with_reducible apply Ext.alloc | with_reducible apply Ext.drew | with_reducible apply Ext.drewN | (apply Ext.trans'; assumption))); rintro e w2 ⟨rfl, rfl⟩; rw [HT.out])
              go_ret2
              exact ⟨by rw [HRR.out]; rfl, HX.out.trans (by (repeat (first | with_reducible exact Ext.refl _ | with_reducible apply Ext.alloc | with_reducible apply Ext.drew | with_reducible apply Ext.drewN | (apply Ext.trans'; assumption))))⟩
            | false =>
              have HRR : Hid (chkV v L 0 = chkV v (L.drop (k + 1)) (k + 1)) := by unfold Hid; rw [HCH.out, HD.out, chkV, if_neg (by simp [hcv]), ht, if_neg (by simp)]
              have HCV := Lib.hid hcv
              have HT := Lib.hid ht
              clear hcv ht
              go_wp2
              go_region_held3 (fun w' => w'.cell? ⟨w.heap.size, 0, none⟩ = some (.int .i64 v) ∧ w'.cell? ⟨w.heap.size, 1, none⟩ = some (.slice (some ad) n c) ∧ w'.cell? (ad.add k) = some (.slice A1 n1 c1))
                (first | with_reducible assumption | (go_split_ands; refine ⟨?_, ?_, ?_⟩ <;> (repeat (first | with_reducible assumption | (refine Ext.cell ?_ (by assumption)) | with_reducible apply Ext.drew | with_reducible exact Ext.refl _))))
                (first | (go_at_call 39; (with_reducible refine (r2Check_c _ _ _ xs v _ (HROW.out.ext ?_) hroom.out).mono ?_); (repeat (first | with_reducible exact Ext.refl _ | with_reducible apply Ext.alloc | with_reducible apply Ext.drew | with_reducible apply Ext.drewN | (apply Ext.trans'; assumption))); rintro e w1 ⟨rfl, hx1⟩; rw [HCV.out]))
              go_wp2_with (go_at_call 30; (with_reducible refine (rTaut_c _ _ _ xs _ (HROW.out.ext ?_)).mono ?_); (repeat (first | with_reducible exact Ext.refl _ | with_reducible apply Ext.alloc | with_reducible apply Ext.drew | with_reducible apply Ext.drewN | (apply Ext.trans'; assumption))); rintro e w2 ⟨rfl, rfl⟩; rw [HT.out])
              go_roundw
              case rel => exact ⟨k + 1, by omega, by go_num, HRR.out, HXB.out.trans (by (repeat (first | with_reducible exact Ext.refl _ | with_reducible apply Ext.alloc | with_reducible apply Ext.drew | with_reducible apply Ext.drewN | (apply Ext.trans'; assumption))))⟩
              case measure => simp [intOf]; omega
          · have HRR : Hid (fCheckV v L = ((k : Int), cCheckV xs v)) := by unfold Hid; rw [HR.out, HCH.out, HD.out, chkV, if_pos hcv]
            have hb : (cCheckV xs v != 0) = true := by simpa using hcv
            clear hcv
            go_wp2
            go_region_held3 (fun w' => w'.cell? ⟨w.heap.size, 0, none⟩ = some (.int .i64 v) ∧ w'.cell? ⟨w.heap.size, 1, none⟩ = some (.slice (some ad) n c) ∧ w'.cell? (ad.add k) = some (.slice A1 n1 c1))
              (first | with_reducible assumption | (go_split_ands; refine ⟨?_, ?_, ?_⟩ <;> (repeat (first | with_reducible assumption | (refine Ext.cell ?_ (by assumption)) | with_reducible apply Ext.drew | with_reducible exact Ext.refl _))))
              (first | (go_at_call 39; (with_reducible refine (r2Check_c _ _ _ xs v _ (HROW.out.ext ?_) hroom.out).mono ?_); (repeat (first | with_reducible exact Ext.refl _ | with_reducible apply Ext.alloc | with_reducible apply Ext.drew | with_reducible apply Ext.drewN | (apply Ext.trans'; assumption))); rintro e w1 ⟨rfl, hx1⟩; generalize cCheckV xs v = y at hb HRR ⊢))
            go_wp2
            go_ret2
            exact ⟨by rw [HRR.out]; rfl, HX.out.trans (by (repeat (first | with_reducible exact Ext.refl _ | with_reducible apply Ext.alloc | with_reducible apply Ext.drew | with_reducible apply Ext.drewN | (apply Ext.trans'; assumption))))⟩
        · have hkn : k = n := by omega
          have HRR : Hid (fCheckV v L = ((n : Int), 0)) := by unfold Hid; rw [HR.out, HCH.out, List.drop_of_length_le (by have := h.1; omega), hkn]; rfl
          clear hkn
          go_wp2_with fail
          go_ret2
          exact ⟨by rw [HRR.out]; rfl, HX.out⟩
end Go.Proofs.YtdgflniahoidmaaGreat
