/- The reference of layer 11: a checker as a value; Find. -/
import Derived.Test.YtdgflniahoidmaaGreatLr4
import Derived.Test.YtdgflniahoidmaaGreatRCk
import Derived.Test.YtdgflniahoidmaaGreatLr12
import Derived.Test.YtdgflniahoidmaaGreatRat3
set_option maxRecDepth 100000
namespace Go.Proofs.YtdgflniahoidmaaGreat
open Go.RowKit

set_option maxHeartbeats 2000000 in
theorem r10Within_c (A : Option Addr) (n c : Nat) (l : List Int) (lo : Int) (w : World) (h : IntSl w A n l) :
    Calls Tryz.prog 47 #[.slice A n c, .int .i64 lo] w fun e w' => e = .returned (.bool (withinV l lo)) ∧ w = w' := by
  have hn := h.len
  have HLN := Lib.hid h.1
  have HW : Hid (withinV l lo = (decide (n ≤ 1000) && !l.any (outV lo))) := by unfold Hid withinV; rw [h.1]
  have HS := Lib.hid h
  clear h
  go_enter Tryz.func47, Tryz.ntmps47
  go_wp2
  go_loop [5] (fun i => ∃ k : Nat, k ≤ n ∧ i = .int .i64 k ∧ (l.take k).any (outV lo) = false) (fun i => n - (intOf i).toNat)
  case atStart => exact ⟨0, Nat.zero_le _, rfl, rfl⟩
  case round =>
    obtain ⟨k, hk, rfl, ha⟩ := hrel
    have HA := Lib.hid ha
    clear ha
    by_cases hlt : k < n
    · obtain ⟨ad, x, rfl, hx, hcx, hx1, hx2⟩ := HS.out.at_ hlt
      have HT := Lib.hid (take_succ_of hx.out)
      have HO : Hid (outV lo x = (decide (x < lo) || decide (10000000 < x) || decide (x = 0))) := rfl
      have HBAD : Hid (outV lo x = true → withinV l lo = false) := fun h => by
        rw [HW.out, Bool.and_eq_false_iff]
        right
        rw [Bool.not_eq_false', List.any_eq_true]
        exact ⟨x, List.mem_of_getElem? hx.out, h⟩
      clear hx
      by_cases h1 : x < lo
      · go_wp2
        go_ret
        exact ⟨ret_bool (HBAD.out (by rw [HO.out]; simp [h1])).symm, rfl⟩
      · by_cases h2 : 10000000 < x
        · go_wp2
          go_ret
          exact ⟨ret_bool (HBAD.out (by rw [HO.out]; simp [h2])).symm, rfl⟩
        · by_cases h3 : x = 0
          · subst h3
            go_wp2
            go_ret
            exact ⟨ret_bool (HBAD.out (by rw [HO.out]; simp)).symm, rfl⟩
          · have hb : (x == 0) = false := by simpa using h3
            have HG : Hid (outV lo x = false) := by unfold Hid; rw [HO.out]; simp [h1, h2, h3]
            go_wp2
            go_round
            case rel => exact ⟨k + 1, by omega, by go_num, by rw [HT.out, List.any_append, HA.out]; simp [HG.out]⟩
            case measure => simp [intOf]; omega
    · have HALL : Hid (l.any (outV lo) = false) := by
        have := HA.out
        rw [List.take_of_length_le (by rw [HLN.out]; omega)] at this
        exact this
      go_wp2
      go_ret
      exact ⟨ret_bool (by rw [HW.out, HALL.out]; simp; omega), rfl⟩
end Go.Proofs.YtdgflniahoidmaaGreat

namespace Go.Proofs.YtdgflniahoidmaaGreat
open Go.RowKit

/-- Is it a step that adds, one that takes away? -/
def addV (s : Stp) : Bool := decide (s.kind = 1) && decide (1 ≤ s.id) && decide (s.id ≤ 10000000) && decide (cCheckV s.lits 100000 = 0) && withinV s.hints (-10000000)
def delV (s : Stp) : Bool := decide (s.kind = 2) && decide (0 ≤ s.id) && decide (s.id ≤ 10000000) && decide (s.lits.length = 0) && withinV s.hints 1
theorem mayV_or (s : Stp) : mayV s = (addV s || delV s) := by
  unfold mayV addV delV
  by_cases h1 : s.kind = 1
  · rw [if_pos h1, decide_eq_true h1, decide_eq_false (show ¬ s.kind = 2 by omega)]; simp
  · rw [if_neg h1, decide_eq_false h1]
    by_cases h2 : s.kind = 2
    · rw [if_pos h2, decide_eq_true h2]; simp
    · rw [if_neg h2, decide_eq_false h2]; simp
def RetR10 (r : Bool) (w : World) (e : Ending) (w' : World) : Prop := e = .returned (.tuple #[.int .i64 (if r then 1 else 0), .int .i64 (if r then 0 else 2)]) ∧ Ext w w'

set_option maxHeartbeats 8000000 in
theorem r10Check_c (kind id : Int) (lits hints : List Int) (A : Option Addr) (n c : Nat) (A' : Option Addr) (n' c' : Nat) (g : Nat) (w : World) (hb : Blk w g 44 #[.int .i64 kind, .int .i64 id, .slice A n c, .slice A' n' c']) (h : IntSl w A n lits) (hnc : n ≤ c) (h' : IntSl w A' n' hints) :
    Calls Tryz.prog 28 #[.slice (some ⟨g, 0, none⟩) 1 1] w (RetR10 (mayV ⟨kind, id, lits, hints⟩) w) := by
  have q0 := hb.cell 0
  have q1 := hb.cell 1
  have q2 := hb.cell 2
  have q3 := hb.cell 3
  have HLN := Lib.hid h.1
  have HS := Lib.hid h
  have HS' := Lib.hid h'
  have hlen := h.len
  clear h h' hb
  have HX0 := Lib.hid ((Ext.refl w).alloc (Obj.cells #[.int .i64 kind, .int .i64 id, .slice A n c, .slice A' n' c'] 44))
  have HB0 := Lib.hid (Blk.new w 44 #[.int .i64 kind, .int .i64 id, .slice A n c, .slice A' n' c'])
  have HMV := Lib.hid (mayV_or ⟨kind, id, lits, hints⟩)
  have HA : Hid (addV ⟨kind, id, lits, hints⟩ = (decide (kind = 1) && decide (1 ≤ id) && decide (id ≤ 10000000) && decide (cCheckV lits 100000 = 0) && withinV hints (-10000000))) := rfl
  have HD : Hid (delV ⟨kind, id, lits, hints⟩ = (decide (kind = 2) && decide (0 ≤ id) && decide (id ≤ 10000000) && decide (n = 0) && withinV hints 1)) := by unfold Hid delV; rw [HLN.out]
  go_enter Tryz.func28, Tryz.ntmps28
  go_wp2_with fail
  go_loopw [4] (fun i wr => (i = .int .i64 0 ∧ w = wr) ∨ (i = .int .i64 1 ∧ mayV ⟨kind, id, lits, hints⟩ = true ∧ Ext w wr)) (fun i _ => 1 - (intOf i).toNat)
  case atStart => exact .inl ⟨rfl, rfl⟩
  case round =>
    rcases hrel with ⟨rfl, rfl⟩ | ⟨rfl, hmt, hx⟩
    · have e0 := HB0.out.cell 0
      have e1 := HB0.out.cell 1
      have e2 := HB0.out.cell 2
      have e3 := HB0.out.cell 3
      by_cases k1 : kind = 1
      · subst k1
        by_cases h1 : 1 ≤ id
        · by_cases h2 : id ≤ 10000000
          · obtain ⟨y, hy⟩ : ∃ y, cCheckV lits 100000 = y := ⟨_, rfl⟩
            have HY := Lib.hid hy
            rw [hy] at HA
            clear hy
            go_wp2_with fail
            refine (r2Check_c _ _ _ lits 100000 _ (HS.out.ext HX0.out) hnc).mono ?_
            rintro e w1 ⟨rfl, hx1⟩
            rw [HY.out]
            have HX1 := Lib.hid (HX0.out.trans hx1)
            have f0 := (HB0.out.ext (hx1)).cell 0
            have f1 := (HB0.out.ext (hx1)).cell 1
            have f2 := (HB0.out.ext (hx1)).cell 2
            have f3 := (HB0.out.ext (hx1)).cell 3
            have HE1 := Lib.hid (HS'.out.ext HX1.out)
            clear hx1 e0 e1 e2 e3 q0 q1 q2 q3
            by_cases h3 : y = 0
            · subst h3
              obtain ⟨r, hr⟩ : ∃ r, withinV hints (-10000000) = r := ⟨_, rfl⟩
              have HR := Lib.hid hr
              rw [hr] at HA
              clear hr
              go_wp2_with fail
              refine (r10Within_c _ _ _ hints (-10000000) _ HE1.out).mono ?_
              rintro e w2 ⟨rfl, rfl⟩
              rw [HR.out]
              cases r
              · skip
                have HM : Hid (mayV ⟨1, id, lits, hints⟩ = false) := by unfold Hid; rw [HMV.out, HA.out, HD.out]; simp
                go_wp2_with fail
                go_ret2
                exact ⟨by rw [HM.out]; rfl, HX1.out⟩
              · skip
                have HM : Hid (mayV ⟨1, id, lits, hints⟩ = true) := by unfold Hid; rw [HMV.out, HA.out, HD.out]; simp [h1, h2]
                go_wp2_with fail
                go_roundw
                case rel => exact .inr ⟨rfl, HM.out, HX1.out⟩
                case measure => simp [intOf]
            · have hb : (y == 0) = false := by simpa using h3
              have HM : Hid (mayV ⟨1, id, lits, hints⟩ = false) := by unfold Hid; rw [HMV.out, HA.out, HD.out]; simp [h3]
              go_wp2_with fail
              go_ret2
              exact ⟨by rw [HM.out]; rfl, HX1.out⟩
          · skip
            have HM : Hid (mayV ⟨1, id, lits, hints⟩ = false) := by unfold Hid; rw [HMV.out, HA.out, HD.out]; simp [h2]; try omega
            go_wp2_with fail
            go_ret2
            exact ⟨by rw [HM.out]; rfl, HX0.out⟩
        · skip
          have HM : Hid (mayV ⟨1, id, lits, hints⟩ = false) := by unfold Hid; rw [HMV.out, HA.out, HD.out]; simp [h1]; try omega
          go_wp2_with fail
          go_ret2
          exact ⟨by rw [HM.out]; rfl, HX0.out⟩
      · have hk1 : (kind == 1) = false := by simpa using k1
        by_cases k2 : kind = 2
        · subst k2
          by_cases h1 : 0 ≤ id
          · by_cases h2 : id ≤ 10000000
            · by_cases h3 : n = 0
              · obtain ⟨r, hr⟩ : ∃ r, withinV hints 1 = r := ⟨_, rfl⟩
                have HR := Lib.hid hr
                rw [hr] at HD
                clear hr
                subst h3
                go_wp2_with fail
                refine (r10Within_c _ _ _ hints 1 _ (HS'.out.ext HX0.out)).mono ?_
                rintro e w2 ⟨rfl, rfl⟩
                rw [HR.out]
                cases r
                · skip
                  have HM : Hid (mayV ⟨2, id, lits, hints⟩ = false) := by unfold Hid; rw [HMV.out, HA.out, HD.out]; simp
                  go_wp2_with fail
                  go_ret2
                  exact ⟨by rw [HM.out]; rfl, HX0.out⟩
                · skip
                  have HM : Hid (mayV ⟨2, id, lits, hints⟩ = true) := by unfold Hid; rw [HMV.out, HA.out, HD.out]; simp [h1, h2]
                  go_wp2_with fail
                  go_roundw
                  case rel => exact .inr ⟨rfl, HM.out, HX0.out⟩
                  case measure => simp [intOf]
              · have hz : ((n : Int) == 0) = false := by rw [beq_eq_false_iff_ne]; omega
                have HM : Hid (mayV ⟨2, id, lits, hints⟩ = false) := by unfold Hid; rw [HMV.out, HA.out, HD.out]; simp [h3]
                go_wp2_with fail
                go_ret2
                exact ⟨by rw [HM.out]; rfl, HX0.out⟩
            · skip
              have HM : Hid (mayV ⟨2, id, lits, hints⟩ = false) := by unfold Hid; rw [HMV.out, HA.out, HD.out]; simp [h2]; try omega
              go_wp2_with fail
              go_ret2
              exact ⟨by rw [HM.out]; rfl, HX0.out⟩
          · skip
            have HM : Hid (mayV ⟨2, id, lits, hints⟩ = false) := by unfold Hid; rw [HMV.out, HA.out, HD.out]; simp [h1]; try omega
            go_wp2_with fail
            go_ret2
            exact ⟨by rw [HM.out]; rfl, HX0.out⟩
        · have hk2 : (kind == 2) = false := by simpa using k2
          have HM : Hid (mayV ⟨kind, id, lits, hints⟩ = false) := by unfold Hid; rw [HMV.out, HA.out, HD.out]; simp [k1, k2]
          go_wp2_with fail
          go_ret2
          exact ⟨by rw [HM.out]; rfl, HX0.out⟩
    · have HMT := Lib.hid hmt
      have HX := Lib.hid hx
      clear hmt hx
      go_wp2_with fail
      go_ret2
      exact ⟨by rw [HMT.out]; rfl, HX.out⟩
end Go.Proofs.YtdgflniahoidmaaGreat

namespace Go.Proofs.YtdgflniahoidmaaGreat
open Go.RowKit

/-! ### Plain: what is told ahead, and the groups, by another road -/
def aheadV (h : List Int) : List Int := h.takeWhile fun x => decide (0 ≤ x)
def groupsV : List Int → List (List Int)
  | [] => []
  | x :: t => if x < 0 then (x :: aheadV t) :: groupsV t else groupsV t
theorem aheadV_cons_neg {x : Int} {t : List Int} (hx : x < 0) : aheadV (x :: t) = [] := by unfold aheadV; rw [List.takeWhile_cons, if_neg (by simp; omega)]
theorem aheadV_cons_pos {x : Int} {t : List Int} (hx : ¬ x < 0) : aheadV (x :: t) = x :: aheadV t := by unfold aheadV; rw [List.takeWhile_cons, if_pos (by simp; omega)]
theorem split_fold2 : ∀ (h : List Int) (a : List Int) (gs : List (List Int)) (g : List Int), h.foldl split1 (a, gs ++ [g]) = (a, gs ++ [g ++ aheadV h] ++ groupsV h)
  | [], a, gs, g => by simp [aheadV, groupsV]
  | x :: t, a, gs, g => by
    rw [List.foldl_cons]
    by_cases hx : x < 0
    · rw [split1_neg hx, split_fold2 t, aheadV_cons_neg hx]
      simp [groupsV, hx]
    · have hl : (gs ++ [g])[gs.length]? = some g := by simp
      rw [split1_last (m := gs.length) hx (by simp) hl]
      have e : (gs ++ [g]).set gs.length (g ++ [x]) = gs ++ [g ++ [x]] := by simp
      show t.foldl split1 (a, (gs ++ [g]).set gs.length (g ++ [x])) = _
      rw [e, split_fold2 t, aheadV_cons_pos hx]
      simp [groupsV, hx]
theorem split_fold1 : ∀ (h : List Int) (a : List Int), h.foldl split1 (a, []) = (a ++ aheadV h, groupsV h)
  | [], a => by simp [aheadV, groupsV]
  | x :: t, a => by
    rw [List.foldl_cons]
    by_cases hx : x < 0
    · rw [split1_neg hx]
      show t.foldl split1 (a, [] ++ [[x]]) = _
      rw [split_fold2 t, aheadV_cons_neg hx]
      simp [groupsV, hx]
    · rw [split1_zero hx rfl]
      show t.foldl split1 (a ++ [x], []) = _
      rw [split_fold1 t, aheadV_cons_pos hx]
      simp [groupsV, hx]
theorem splitV_is (h : List Int) : splitV h = (aheadV h, groupsV h) := by
  unfold splitV
  rw [split_fold1]; simp
/-- Where a row of numbers from 0 on ends: k numbers of h from i on are such. -/
theorem ahead_run {h : List Int} {k : Nat} (hk : (h.take k).all (fun x => decide (0 ≤ x)) = true) (hend : ∀ x, h[k]? = some x → x < 0) : aheadV h = h.take k := by
  unfold aheadV
  have e : h = h.take k ++ h.drop k := (List.take_append_drop k h).symm
  conv => lhs; rw [e]
  rw [List.takeWhile_append_of_pos (fun a ha => List.all_eq_true.1 hk a ha)]
  cases hd : h.drop k with
  | nil => simp
  | cons y t =>
    have hy : h[k]? = some y := by
      have : (h.drop k)[0]? = some y := by rw [hd]; rfl
      rwa [List.getElem?_drop, Nat.add_zero] at this
    have := hend y hy
    rw [List.takeWhile_cons, if_neg (by simp; omega), List.append_nil]
theorem groups_pos {h : List Int} : ∀ {k : Nat}, (h.take k).all (fun x => decide (0 ≤ x)) = true → groupsV h = groupsV (h.drop k) := by
  induction h with
  | nil => intro k _; simp
  | cons x t ih =>
    intro k hk
    cases k with
    | zero => rfl
    | succ k =>
      rw [List.take_succ_cons, List.all_cons, Bool.and_eq_true, decide_eq_true_eq] at hk
      rw [List.drop_succ_cons, ← ih hk.2]
      show (if x < 0 then _ else _) = _
      rw [if_neg (by omega)]
theorem groups_drop {h : List Int} {k : Nat} {x : Int} (hx : h[k]? = some x) : groupsV (h.drop k) = if x < 0 then (x :: aheadV (h.drop (k + 1))) :: groupsV (h.drop (k + 1)) else groupsV (h.drop (k + 1)) := by
  rw [drop_cons hx]; rfl
end Go.Proofs.YtdgflniahoidmaaGreat

namespace Go.Proofs.YtdgflniahoidmaaGreat
open Go.RowKit

/-- A slice of slices that the call owns; its rows lie in an older world, each with its room. -/
def OwnRW (w0 w : World) (base : Nat) (v : Value) (L : List (List Int)) : Prop :=
  ∃ vs : List Value, OwnV w base 42 1 v vs.length vs ∧ vs.length = L.length ∧ ∀ (j : Nat) (xs : List Int), L[j]? = some xs → ∃ A n c, vs[j]? = some (.slice A n c) ∧ IntSl w0 A n xs ∧ n ≤ c
theorem OwnRW.nil (w0 w : World) (base : Nat) : OwnRW w0 w base (.slice none 0 0) [] := ⟨[], OwnV.nil _ _ _ _, rfl, fun _ _ h => by simp at h⟩
theorem OwnRW.toR {w0 w : World} {base : Nat} {v : Value} {L : List (List Int)} (h : OwnRW w0 w base v L) : OwnR w0 w base v L := by
  obtain ⟨vs, a, b, c⟩ := h
  exact ⟨vs, a, b, fun j xs hj => let ⟨A, n, c', h1, h2, _⟩ := c j xs hj; ⟨A, n, c', h1, h2⟩⟩
theorem OwnRW.snoc {w0 w' : World} {base : Nat} {v' : Value} {L : List (List Int)} {vs : List Value} {A : Option Addr} {n c : Nat} {y : List Int} (hl : vs.length = L.length)
    (hr : ∀ (j : Nat) (xs : List Int), L[j]? = some xs → ∃ A n c, vs[j]? = some (.slice A n c) ∧ IntSl w0 A n xs ∧ n ≤ c) (hv : OwnV w' base 42 1 v' (vs.length + 1) (vs ++ [.slice A n c])) (hy : IntSl w0 A n y) (hc : n ≤ c) : OwnRW w0 w' base v' (L ++ [y]) := by
  refine ⟨vs ++ [.slice A n c], by rw [List.length_append]; exact hv, by simp [hl], fun j xs hj => ?_⟩
  by_cases hjl : j < L.length
  · rw [List.getElem?_append_left hjl] at hj
    obtain ⟨A1, n1, c1, e1, e2, e3⟩ := hr j xs hj
    exact ⟨A1, n1, c1, by rw [List.getElem?_append_left (by omega)]; exact e1, e2, e3⟩
  · have hj0 : j - L.length = 0 := by have := (List.getElem?_eq_some_iff.1 hj).1; simp at this; omega
    rw [List.getElem?_append_right (by omega), hj0] at hj
    simp at hj
    subst hj
    exact ⟨A, n, c, by rw [List.getElem?_append_right (by omega), hl, hj0]; rfl, hy, hc⟩
/-- A part of a slice. -/
theorem IntSl.part {w : World} {ad : Addr} {n q s : Nat} {xs : List Int} (h : IntSl w (some ad) n xs) (hq : q ≤ s) (hs : s ≤ n) : IntSl w (some (ad.add q)) (s - q) ((xs.drop q).take (s - q)) := by
  have hl : xs.length = n := h.1
  refine ⟨by rw [List.length_take, List.length_drop]; omega, by have := h.2.1; omega, fun x hx => h.2.2.1 x (List.mem_of_mem_drop (List.mem_of_mem_take hx)), fun hp => ⟨_, rfl, fun j x hj => ?_⟩⟩
  obtain ⟨ad', e, hc⟩ := h.2.2.2 (by omega)
  cases e
  rw [Addr.add_add]
  have hj2 : j < s - q := by have := (List.getElem?_eq_some_iff.1 hj).1; rw [List.length_take] at this; omega
  rw [List.getElem?_take_of_lt hj2, List.getElem?_drop] at hj
  exact hc _ _ hj
/-- What Split hands back. -/
def RetSplit10 (hints : List Int) (w : World) (e : Ending) (w' : World) : Prop :=
  ∃ A m c vg, e = .returned (.tuple #[.slice A m c, vg]) ∧ IntSl w A m (splitV hints).1 ∧ OwnRW w w' w.heap.size vg (splitV hints).2 ∧ Ext w w'

set_option maxHeartbeats 8000000 in
theorem r10Split_c (A : Option Addr) (n c : Nat) (hints : List Int) (w : World) (h : IntSl w A n hints) (hnc : n ≤ c) (hsm : n ≤ 1000000) :
    Calls Tryz.prog 51 #[.slice A n c] w (RetSplit10 hints w) := by
  have HLN := Lib.hid h.1
  have HS := Lib.hid h
  clear h
  go_enter Tryz.func51, Tryz.ntmps51
  go_wp2_with fail
  go_loopw [4] (fun i wr => w = wr ∧ ∃ k : Nat, k ≤ n ∧ i = .int .i64 k ∧ (hints.take k).all (fun x => decide (0 ≤ x)) = true) (fun i _ => n - (intOf i).toNat)
  case atStart => exact ⟨rfl, 0, Nat.zero_le _, rfl, rfl⟩
  case round =>
    obtain ⟨rfl, k, hk, rfl, hall⟩ := hrel
    have HALL := Lib.hid hall
    clear hall
    by_cases hlt : k < n
    · obtain ⟨ad, x, rfl, hx, hcx, hx1, hx2⟩ := HS.out.at_ hlt
      have HT := Lib.hid (take_succ_of hx.out)
      have HXX := Lib.hid hx.out
      clear hx
      by_cases hneg : x < 0
      · skip
        have HEND : Hid (aheadV hints = hints.take k ∧ groupsV hints = groupsV (hints.drop k)) := ⟨ahead_run HALL.out (fun y hy => by rw [HXX.out] at hy; cases hy; exact hneg), groups_pos HALL.out⟩
        go_wp2_with fail
        go_loopw [5, 6] (fun v i wr => ∃ (q : Nat) (R : List (List Int)), q ≤ n ∧ R.length ≤ q ∧ i = .int .i64 q ∧ OwnRW w wr w.heap.size v R ∧ groupsV hints = R ++ groupsV (hints.drop q) ∧ Ext w wr) (fun _ i _ => n - (intOf i).toNat)
        case atStart => exact ⟨k, [], hk, Nat.zero_le _, rfl, OwnRW.nil _ _ _, HEND.out.2, Ext.refl w⟩
        case round =>
          obtain ⟨q, R, hq, hRq, rfl, ho, hgr, hx⟩ := hrel
          have HO := Lib.hid ho
          have HGR := Lib.hid hgr
          have HX := Lib.hid hx
          have HSZ := Lib.hid hx.size_le
          clear ho hgr hx
          by_cases hqn : q < n
          · obtain ⟨ad, x, e, hxq, hcx, hx1, hx2⟩ := (HS.out.ext HX.out).at_ hqn
            cases e
            have HG := Lib.hid (groups_drop hxq.out)
            have HXQ := Lib.hid hxq.out
            clear hxq
            by_cases hneg : x < 0
            · go_wp2_with fail
              go_loopw [7] (fun i wj => wr = wj ∧ ∃ s : Nat, q + 1 ≤ s ∧ s ≤ n ∧ i = .int .i64 s ∧ ((hints.drop (q + 1)).take (s - (q + 1))).all (fun x => decide (0 ≤ x)) = true) (fun i _ => n - (intOf i).toNat)
              case atStart => exact ⟨rfl, q + 1, Nat.le_refl _, by omega, by go_num, by simp⟩
              case round =>
                obtain ⟨rfl, s, hs1, hs2, rfl, has⟩ := hrel
                have HAS := Lib.hid has
                clear has
                by_cases hsn : s < n
                · obtain ⟨ad', y, e', hy, hcy, hy1, hy2⟩ := (HS.out.ext HX.out).at_ hsn
                  cases e'
                  have HYS := Lib.hid hy.out
                  clear hy
                  by_cases hyn : y < 0
                  · skip
                    have HAH : Hid (aheadV (hints.drop (q + 1)) = (hints.drop (q + 1)).take (s - (q + 1))) := ahead_run HAS.out (fun z hz => by
                      rw [List.getElem?_drop, show q + 1 + (s - (q + 1)) = s by omega] at hz
                      exact (fun (e : y = z) => by omega) (Option.some.inj (HYS.out.symm.trans hz)))
                    have HROW : Hid ((hints.drop q).take (s - q) = x :: aheadV (hints.drop (q + 1))) := by
                      unfold Hid
                      rw [drop_cons HXQ.out, show s - q = (s - (q + 1)) + 1 by omega, List.take_succ_cons, HAH.out]
                    have HGS : Hid (groupsV (hints.drop (q + 1)) = groupsV (hints.drop (q + 1))) := rfl
                    obtain ⟨vs, hvs, hvl, hvr⟩ := HO.out
                    have HVS := Lib.hid hvs
                    have HVR := Lib.hid hvr
                    have hcq : ¬ c = q := by omega
                    have hz1 : (q : Int) ≤ (s : Int) := by omega
                    have hz2 : (s : Int) ≤ (c : Int) := by omega
                    clear hvs hvr
                    have HP : Hid (IntSl w (some (ad.add q)) (s - q) (x :: aheadV (hints.drop (q + 1)))) := by
                      have e := HS.out.part (q := q) (s := s) (by omega) hs2
                      rw [HROW.out] at e; exact e
                    go_wp2_with (at_builtin; refine appendV eltR _ rfl _ _ rfl w.heap.size _ _ vs rfl (OwnV.alloc HVS.out _) _ _ _ [.slice (some (ad.add q)) (s - q) (c - q)] rfl (SlV.one (fun j u hj => by cases j with | zero => simp at hj; subst hj; simp [Addr.add] | succ j => simp at hj) rfl) (by intro u hu; rw [List.mem_singleton.1 hu]; rfl) (by omega) (by have := HSZ.out; simp; omega) ?_; intro v' w2 ho2 hg2 _; have HN := Lib.hid (OwnRW.snoc hvl HVR.out ho2 HP.out (by omega)); have HX2 : Hid (Ext w w2) := Ext.grown (HX.out.alloc _) hg2 (fun j hj => (HVS.out.blk j hj).1); clear ho2 hg2)
                    go_roundw
                    case rel => exact ⟨q + 1, R ++ [x :: aheadV (hints.drop (q + 1))], by omega, by simp; omega, by go_num, HN.out, by rw [HGR.out, HG.out, if_pos hneg]; simp, HX2.out⟩
                    case measure => simp [intOf]; omega
                  · go_wp2_with fail
                    go_roundw
                    case rel =>
                      refine ⟨by trivial, s + 1, by omega, by omega, by go_num, ?_⟩
                      rw [show s + 1 - (q + 1) = (s - (q + 1)) + 1 by omega, take_succ_of (x := y) (by rw [List.getElem?_drop, show q + 1 + (s - (q + 1)) = s by omega]; exact HYS.out), List.all_append, HAS.out]
                      simp; omega
                    case measure => simp [intOf]; omega
                · skip
                  have HAH : Hid (aheadV (hints.drop (q + 1)) = (hints.drop (q + 1)).take (s - (q + 1))) := ahead_run HAS.out (fun z hz => by
                    rw [List.getElem?_drop, show q + 1 + (s - (q + 1)) = s by omega] at hz
                    have := (List.getElem?_eq_some_iff.1 hz).1; have := HLN.out; omega)
                  have HROW : Hid ((hints.drop q).take (s - q) = x :: aheadV (hints.drop (q + 1))) := by
                    unfold Hid
                    rw [drop_cons HXQ.out, show s - q = (s - (q + 1)) + 1 by omega, List.take_succ_cons, HAH.out]
                  have HGS : Hid (groupsV (hints.drop (q + 1)) = groupsV (hints.drop (q + 1))) := rfl
                  obtain ⟨vs, hvs, hvl, hvr⟩ := HO.out
                  have HVS := Lib.hid hvs
                  have HVR := Lib.hid hvr
                  have hcq : ¬ c = q := by omega
                  have hz1 : (q : Int) ≤ (s : Int) := by omega
                  have hz2 : (s : Int) ≤ (c : Int) := by omega
                  clear hvs hvr
                  have HP : Hid (IntSl w (some (ad.add q)) (s - q) (x :: aheadV (hints.drop (q + 1)))) := by
                    have e := HS.out.part (q := q) (s := s) (by omega) hs2
                    rw [HROW.out] at e; exact e
                  go_wp2_with (at_builtin; refine appendV eltR _ rfl _ _ rfl w.heap.size _ _ vs rfl (OwnV.alloc HVS.out _) _ _ _ [.slice (some (ad.add q)) (s - q) (c - q)] rfl (SlV.one (fun j u hj => by cases j with | zero => simp at hj; subst hj; simp [Addr.add] | succ j => simp at hj) rfl) (by intro u hu; rw [List.mem_singleton.1 hu]; rfl) (by omega) (by have := HSZ.out; simp; omega) ?_; intro v' w2 ho2 hg2 _; have HN := Lib.hid (OwnRW.snoc hvl HVR.out ho2 HP.out (by omega)); have HX2 : Hid (Ext w w2) := Ext.grown (HX.out.alloc _) hg2 (fun j hj => (HVS.out.blk j hj).1); clear ho2 hg2)
                  go_roundw
                  case rel => exact ⟨q + 1, R ++ [x :: aheadV (hints.drop (q + 1))], by omega, by simp; omega, by go_num, HN.out, by rw [HGR.out, HG.out, if_pos hneg]; simp, HX2.out⟩
                  case measure => simp [intOf]; omega
            · go_wp2_with fail
              go_roundw
              case rel => exact ⟨q + 1, R, by omega, by omega, by go_num, HO.out, by rw [HGR.out, HG.out, if_neg (by omega)], HX.out⟩
              case measure => simp [intOf]; omega
          · have hqn2 : q = n := by omega
            have HGF : Hid (groupsV hints = R) := by
              unfold Hid
              rw [HGR.out, List.drop_eq_nil_of_le (by rw [HLN.out]; omega)]
              simp [groupsV]
            have HTK := Lib.hid (HS.out.take hk)
            have hk1 : (k : Int) ≤ (c : Int) := by omega
            clear hqn2
            go_wp2_with fail
            go_ret2
            exact ⟨_, k, c, _, rfl, by rw [splitV_is, HEND.out.1]; exact HTK.out, by rw [splitV_is, HGF.out]; exact HO.out, HX.out⟩
      · go_wp2_with fail
        go_roundw
        case rel => exact ⟨by trivial, k + 1, by omega, by go_num, by rw [HT.out, List.all_append, HALL.out]; simp; omega⟩
        case measure => simp [intOf]; omega
    · skip
      have HEND : Hid (aheadV hints = hints.take k ∧ groupsV hints = groupsV (hints.drop k)) := ⟨ahead_run HALL.out (fun y hy => by have := (List.getElem?_eq_some_iff.1 hy).1; have := HLN.out; omega), groups_pos HALL.out⟩
      go_wp2_with fail
      go_loopw [5, 6] (fun v i wr => ∃ (q : Nat) (R : List (List Int)), q ≤ n ∧ R.length ≤ q ∧ i = .int .i64 q ∧ OwnRW w wr w.heap.size v R ∧ groupsV hints = R ++ groupsV (hints.drop q) ∧ Ext w wr) (fun _ i _ => n - (intOf i).toNat)
      case atStart => exact ⟨k, [], hk, Nat.zero_le _, rfl, OwnRW.nil _ _ _, HEND.out.2, Ext.refl w⟩
      case round =>
        obtain ⟨q, R, hq, hRq, rfl, ho, hgr, hx⟩ := hrel
        have HO := Lib.hid ho
        have HGR := Lib.hid hgr
        have HX := Lib.hid hx
        have HSZ := Lib.hid hx.size_le
        clear ho hgr hx
        by_cases hqn : q < n
        · obtain ⟨ad, x, e, hxq, hcx, hx1, hx2⟩ := (HS.out.ext HX.out).at_ hqn
          subst e
          have HG := Lib.hid (groups_drop hxq.out)
          have HXQ := Lib.hid hxq.out
          clear hxq
          by_cases hneg : x < 0
          · go_wp2_with fail
            go_loopw [7] (fun i wj => wr = wj ∧ ∃ s : Nat, q + 1 ≤ s ∧ s ≤ n ∧ i = .int .i64 s ∧ ((hints.drop (q + 1)).take (s - (q + 1))).all (fun x => decide (0 ≤ x)) = true) (fun i _ => n - (intOf i).toNat)
            case atStart => exact ⟨rfl, q + 1, Nat.le_refl _, by omega, by go_num, by simp⟩
            case round =>
              obtain ⟨rfl, s, hs1, hs2, rfl, has⟩ := hrel
              have HAS := Lib.hid has
              clear has
              by_cases hsn : s < n
              · obtain ⟨ad', y, e', hy, hcy, hy1, hy2⟩ := (HS.out.ext HX.out).at_ hsn
                cases e'
                have HYS := Lib.hid hy.out
                clear hy
                by_cases hyn : y < 0
                · skip
                  have HAH : Hid (aheadV (hints.drop (q + 1)) = (hints.drop (q + 1)).take (s - (q + 1))) := ahead_run HAS.out (fun z hz => by
                    rw [List.getElem?_drop, show q + 1 + (s - (q + 1)) = s by omega] at hz
                    exact (fun (e : y = z) => by omega) (Option.some.inj (HYS.out.symm.trans hz)))
                  have HROW : Hid ((hints.drop q).take (s - q) = x :: aheadV (hints.drop (q + 1))) := by
                    unfold Hid
                    rw [drop_cons HXQ.out, show s - q = (s - (q + 1)) + 1 by omega, List.take_succ_cons, HAH.out]
                  have HGS : Hid (groupsV (hints.drop (q + 1)) = groupsV (hints.drop (q + 1))) := rfl
                  obtain ⟨vs, hvs, hvl, hvr⟩ := HO.out
                  have HVS := Lib.hid hvs
                  have HVR := Lib.hid hvr
                  have hcq : ¬ c = q := by omega
                  have hz1 : (q : Int) ≤ (s : Int) := by omega
                  have hz2 : (s : Int) ≤ (c : Int) := by omega
                  clear hvs hvr
                  have HP : Hid (IntSl w (some (ad.add q)) (s - q) (x :: aheadV (hints.drop (q + 1)))) := by
                    have e := HS.out.part (q := q) (s := s) (by omega) hs2
                    rw [HROW.out] at e; exact e
                  go_wp2_with (at_builtin; refine appendV eltR _ rfl _ _ rfl w.heap.size _ _ vs rfl (OwnV.alloc HVS.out _) _ _ _ [.slice (some (ad.add q)) (s - q) (c - q)] rfl (SlV.one (fun j u hj => by cases j with | zero => simp at hj; subst hj; simp [Addr.add] | succ j => simp at hj) rfl) (by intro u hu; rw [List.mem_singleton.1 hu]; rfl) (by omega) (by have := HSZ.out; simp; omega) ?_; intro v' w2 ho2 hg2 _; have HN := Lib.hid (OwnRW.snoc hvl HVR.out ho2 HP.out (by omega)); have HX2 : Hid (Ext w w2) := Ext.grown (HX.out.alloc _) hg2 (fun j hj => (HVS.out.blk j hj).1); clear ho2 hg2)
                  go_roundw
                  case rel => exact ⟨q + 1, R ++ [x :: aheadV (hints.drop (q + 1))], by omega, by simp; omega, by go_num, HN.out, by rw [HGR.out, HG.out, if_pos hneg]; simp, HX2.out⟩
                  case measure => simp [intOf]; omega
                · go_wp2_with fail
                  go_roundw
                  case rel =>
                    refine ⟨by trivial, s + 1, by omega, by omega, by go_num, ?_⟩
                    rw [show s + 1 - (q + 1) = (s - (q + 1)) + 1 by omega, take_succ_of (x := y) (by rw [List.getElem?_drop, show q + 1 + (s - (q + 1)) = s by omega]; exact HYS.out), List.all_append, HAS.out]
                    simp; omega
                  case measure => simp [intOf]; omega
              · skip
                have HAH : Hid (aheadV (hints.drop (q + 1)) = (hints.drop (q + 1)).take (s - (q + 1))) := ahead_run HAS.out (fun z hz => by
                  rw [List.getElem?_drop, show q + 1 + (s - (q + 1)) = s by omega] at hz
                  have := (List.getElem?_eq_some_iff.1 hz).1; have := HLN.out; omega)
                have HROW : Hid ((hints.drop q).take (s - q) = x :: aheadV (hints.drop (q + 1))) := by
                  unfold Hid
                  rw [drop_cons HXQ.out, show s - q = (s - (q + 1)) + 1 by omega, List.take_succ_cons, HAH.out]
                have HGS : Hid (groupsV (hints.drop (q + 1)) = groupsV (hints.drop (q + 1))) := rfl
                obtain ⟨vs, hvs, hvl, hvr⟩ := HO.out
                have HVS := Lib.hid hvs
                have HVR := Lib.hid hvr
                have hcq : ¬ c = q := by omega
                have hz1 : (q : Int) ≤ (s : Int) := by omega
                have hz2 : (s : Int) ≤ (c : Int) := by omega
                clear hvs hvr
                have HP : Hid (IntSl w (some (ad.add q)) (s - q) (x :: aheadV (hints.drop (q + 1)))) := by
                  have e := HS.out.part (q := q) (s := s) (by omega) hs2
                  rw [HROW.out] at e; exact e
                go_wp2_with (at_builtin; refine appendV eltR _ rfl _ _ rfl w.heap.size _ _ vs rfl (OwnV.alloc HVS.out _) _ _ _ [.slice (some (ad.add q)) (s - q) (c - q)] rfl (SlV.one (fun j u hj => by cases j with | zero => simp at hj; subst hj; simp [Addr.add] | succ j => simp at hj) rfl) (by intro u hu; rw [List.mem_singleton.1 hu]; rfl) (by omega) (by have := HSZ.out; simp; omega) ?_; intro v' w2 ho2 hg2 _; have HN := Lib.hid (OwnRW.snoc hvl HVR.out ho2 HP.out (by omega)); have HX2 : Hid (Ext w w2) := Ext.grown (HX.out.alloc _) hg2 (fun j hj => (HVS.out.blk j hj).1); clear ho2 hg2)
                go_roundw
                case rel => exact ⟨q + 1, R ++ [x :: aheadV (hints.drop (q + 1))], by omega, by simp; omega, by go_num, HN.out, by rw [HGR.out, HG.out, if_pos hneg]; simp, HX2.out⟩
                case measure => simp [intOf]; omega
          · go_wp2_with fail
            go_roundw
            case rel => exact ⟨q + 1, R, by omega, by omega, by go_num, HO.out, by rw [HGR.out, HG.out, if_neg (by omega)], HX.out⟩
            case measure => simp [intOf]; omega
        · have hqn2 : q = n := by omega
          have HGF : Hid (groupsV hints = R) := by
            unfold Hid
            rw [HGR.out, List.drop_eq_nil_of_le (by rw [HLN.out]; omega)]
            simp [groupsV]
          have HTK := Lib.hid (HS.out.take hk)
          have hk1 : (k : Int) ≤ (c : Int) := by omega
          clear hqn2
          go_wp2_with fail
          go_ret2
          exact ⟨_, k, c, _, rfl, by rw [splitV_is, HEND.out.1]; exact HTK.out, by rw [splitV_is, HGF.out]; exact HO.out, HX.out⟩
end Go.Proofs.YtdgflniahoidmaaGreat

namespace Go.Proofs.YtdgflniahoidmaaGreat
open Go.RowKit

theorem index_neg {p : Int} (h : 0 ≤ indexV p) : negV p = -p ∧ -100000 ≤ p ∧ p ≤ 100000 := by
  unfold indexV at h
  unfold negV
  by_cases h1 : 0 < p ∧ p ≤ 100000
  · rw [if_pos (by omega)]; omega
  · rw [if_neg h1] at h
    by_cases h2 : p < 0 ∧ -100000 ≤ p
    · rw [if_pos (by omega)]; omega
    · rw [if_neg h2] at h; omega
theorem index_bad {p : Int} (h : ¬ 0 ≤ indexV p) : negV p = 0 := by
  unfold indexV at h
  unfold negV
  by_cases h1 : -100000 ≤ p ∧ p ≤ 100000
  · rw [if_pos h1]
    by_cases h2 : 0 < p
    · rw [if_pos ⟨h2, h1.2⟩] at h; omega
    · by_cases h3 : p < 0
      · rw [if_neg (by omega), if_pos ⟨h3, h1.1⟩] at h; omega
      · omega
  · rw [if_neg h1]

set_option maxHeartbeats 2000000 in
theorem r9Cands_c (A : Option Addr) (n c : Nat) (L : List (List Int)) (p : Int) (w : World) (h : RowsSl w A n L) (hsm : n ≤ 1000000000) :
    Calls Tryz.prog 79 #[.slice A n c, .int .i64 p] w (RetOwn (candV p L) w) := by
  have HLn := Lib.hid h.1
  have HSL := Lib.hid h
  clear h
  go_enter Tryz.func79, Tryz.ntmps79
  go_wp2_with fail
  go_loopw [5, 6] (fun o i wr => ∃ k : Nat, k ≤ n ∧ i = .int .i64 k ∧ OwnI wr w.heap.size o (candL p L k) ∧ Ext w wr) (fun _ i _ => n - (intOf i).toNat)
  case atStart => exact ⟨0, Nat.zero_le _, rfl, OwnI.nil _ _, Ext.refl _⟩
  case round =>
    obtain ⟨k, hk, rfl, ho, hx⟩ := hrel
    have hlen := candL_len p L k
    have HSZ := Lib.hid hx.size_le
    have HO := Lib.hid ho
    have HX := Lib.hid hx
    clear ho hx
    by_cases hlt : k < n
    · obtain ⟨ad, xs, A1, n1, c1, rfl, hx, hcx, hrow⟩ := (HSL.out.ext HX.out).at_ hlt
      have HS : Hid (candL p L (k + 1) = candL p L k ++ (if has2V xs (negV p) then [(k : Int)] else [])) := by
        unfold Hid
        rw [candL_succ, List.getD_eq_getElem?_getD, hx.out]; rfl
      have HROW := Lib.hid hrow
      clear hx hrow
      by_cases hi : 0 ≤ indexV p
      · obtain ⟨hn, hp1, hp2⟩ := index_neg hi
        obtain ⟨r, hr⟩ : ∃ r, has2V xs (-p) = r := ⟨_, rfl⟩
        have HR := Lib.hid hr
        have HS2 : Hid (candL p L (k + 1) = candL p L k ++ (if r then [(k : Int)] else [])) := by unfold Hid; rw [HS.out, hn, hr]
        clear hr hn HS
        go_wp2_with fail
        refine (rIndex_c _ _).mono ?_
        rintro e w' ⟨rfl, rfl⟩
        go_wp2_with fail
        refine (has2_c _ _ _ xs _ _ HROW.out).mono ?_
        rintro e w' ⟨rfl, rfl⟩
        rw [HR.out]
        cases r
        · go_wp2_with fail
          go_roundw
          case rel => exact ⟨k + 1, by omega, by go_num, by rw [HS2.out, if_neg (by simp), List.append_nil]; exact HO.out, HX.out⟩
          case measure => simp [intOf]; omega
        · go_wp2_with (at_builtin; refine append1 _ rfl _ _ rfl w.heap.size _ _ rfl (HO.out.alloc _) _ _ _ rfl (cell_one _ _ _) (by omega) (by omega) (by have := HSZ.out; simp; omega) ?_; intro v' w2 ho2 hg2 _; have HO2 := Lib.hid ho2; have HX2 : Hid (Ext w w2) := Ext.grown (HX.out.alloc _) hg2 (fun j hj => (HO.out.blk j hj).1); clear ho2 hg2)
          go_roundw
          case rel => exact ⟨k + 1, by omega, by go_num, by rw [HS2.out, if_pos (by trivial)]; exact HO2.out, HX2.out⟩
          case measure => simp [intOf]; omega
      · have HN : Hid (has2V xs (negV p) = false) := by unfold Hid; rw [index_bad hi]; rfl
        go_wp2_with fail
        refine (rIndex_c _ _).mono ?_
        rintro e w' ⟨rfl, rfl⟩
        go_wp2_with fail
        go_roundw
        case rel => exact ⟨k + 1, by omega, by go_num, by rw [HS.out, HN.out, if_neg (by simp), List.append_nil]; exact HO.out, HX.out⟩
        case measure => simp [intOf]; omega
    · have ho := HO.out
      have hkn : k = n := by omega
      rw [hkn] at ho
      have HO2 : Hid (OwnI wr w.heap.size u5 (candV p L)) := by unfold Hid candV; rw [HLn.out]; exact ho
      clear ho hkn
      go_wp2_with fail
      go_ret
      exact ⟨_, rfl, HO2.out, HX.out⟩
end Go.Proofs.YtdgflniahoidmaaGreat

namespace Go.Proofs.YtdgflniahoidmaaGreat
open Go.RowKit

set_option maxHeartbeats 2000000 in
theorem r9Refute_c (A : Option Addr) (n c : Nat) (l : List Int) (A1 : Option Addr) (n1 c1 : Nat) (cand : List Int) (p : Int) (A2 : Option Addr) (n2 c2 : Nat) (hs : List (List Int)) (w : World) (h : IntSl w A n l) (h1 : IntSl w A1 n1 cand) (h2 : RowsSl w A2 n2 hs) (hsm : n ≤ 10000000) (hsm1 : n1 ≤ 10000000) (hsm2 : n2 ≤ 10000000) :
    Calls Tryz.prog 80 #[.slice A n c, .slice A1 n1 c1, .int .i64 p, .slice A2 n2 c2] w fun e w' => e = .returned (.int .i64 (refuteV l cand p hs)) ∧ Ext w w' := by
  have HLL := Lib.hid h.1
  have HBL := Lib.hid h.2.2.1
  have HL1 := Lib.hid h1.1
  go_enter Tryz.func80, Tryz.ntmps80
  go_wp2_with (at_builtin; refine appendS _ rfl (.tmp 16) (.tmp 17) rfl w.heap.size _ [] rfl (own_empty w) A n c l rfl (h.ext ((Ext.refl _).alloc _)) (by simp; omega) (by simp) ?_; intro v w1 ho1 hg1 hloc; clear hloc; have HV : Hid (OwnI w1 w.heap.size v l) := (show OwnI w1 w.heap.size v ([] ++ l) from ho1); have HX1 : Hid (Ext w w1) := Ext.grown ((Ext.refl _).alloc _) hg1 (fun j hj => by have := (own_empty w).blk j hj; omega); clear ho1 hg1)
  go_loopw [9, 10] (fun o i wr => ∃ (k : Nat) (lc : List Int), k ≤ n1 ∧ i = .int .i64 k ∧ refGo p l cand = refGo p lc (cand.drop k) ∧ lc.length ≤ n + k ∧ (∀ x ∈ lc, -9223372036854775808 ≤ x ∧ x ≤ 9223372036854775807) ∧ OwnI wr w.heap.size o lc ∧ Ext w wr) (fun _ i _ => n1 - (intOf i).toNat)
  case atStart => exact ⟨0, l, Nat.zero_le _, rfl, rfl, by have := HLL.out; omega, HBL.out, HV.out, HX1.out⟩
  case round =>
    obtain ⟨k, lc, hk, rfl, hch, hlc, hbd, ho, hx⟩ := hrel
    obtain ⟨Ao, no, co, rfl, hso, hnc⟩ := ho.slc (by omega) hbd
    have hsz := hx.size_le
    have HNO := Lib.hid hso.1
    have hno : no ≤ 20000000 := by have := hso.1; omega
    have HC := Lib.hid hch
    have HLC := Lib.hid hlc
    have HB := Lib.hid hbd
    have HO := Lib.hid ho
    have HSO := Lib.hid hso
    have HX := Lib.hid hx
    clear hch hlc hbd ho hso hx
    by_cases hlt : k < n1
    · obtain ⟨ad, x, rfl, hx, hcx, hx1, hx2⟩ := (h1.ext HX.out).at_ hlt
      have HD := Lib.hid (drop_cons hx.out)
      have hvi := varV_index x
      by_cases hv0 : varV x = 0
      · have HR : Hid (refGo p l cand = refGo p lc (cand.drop (k + 1))) := by unfold Hid; rw [HC.out, HD.out, refGo, if_pos (Or.inl hv0)]
        have hi : indexV x < 0 := by omega
        clear hv0 hvi
        go_wp2_with fail
        refine (rIndex_c _ _).mono ?_
        rintro e w' ⟨rfl, rfl⟩
        go_wp2_with fail
        go_roundw
        case rel => exact ⟨k + 1, lc, by omega, by go_num, HR.out, by have := HLC.out; omega, HB.out, HO.out, HX.out⟩
        case measure => simp [intOf]; omega
      · have hvb := varV_pos hv0
        obtain ⟨_, hv3, hv4⟩ := hvb
        have hi : ¬ indexV x < 0 := by omega
        by_cases hxn : x = negV p
        · have HR : Hid (refGo p l cand = refGo p lc (cand.drop (k + 1))) := by unfold Hid; rw [HC.out, HD.out, refGo, if_pos (Or.inr hxn)]
          have hxn1 : (x == negV p) = true := by simpa using hxn
          clear hxn hv0 hvi
          go_wp2_with fail
          refine (rIndex_c _ _).mono ?_
          rintro e w' ⟨rfl, rfl⟩
          go_wp2_with fail
          refine (rNeg_c _ _).mono ?_
          rintro e w' ⟨rfl, rfl⟩
          go_wp2_with fail
          go_roundw
          case rel => exact ⟨k + 1, lc, by omega, by go_num, HR.out, by have := HLC.out; omega, HB.out, HO.out, HX.out⟩
          case measure => simp [intOf]; omega
        · have hxn1 : (x == negV p) = false := by simpa using hxn
          have HR0 : Hid (refGo p l cand = if valueV lc x = 1 then none else if valueV lc x = 0 then refGo p (lc ++ [-x]) (cand.drop (k + 1)) else refGo p lc (cand.drop (k + 1))) := by unfold Hid; rw [HC.out, HD.out, refGo, if_neg (by rintro (e | e); exact hv0 e; exact hxn e)]
          clear hxn hv0 hvi
          have hvb := valueV_bd lc x
          obtain ⟨q, hq⟩ : ∃ q, valueV lc x = q := ⟨_, rfl⟩
          rw [hq] at hvb
          have HQ := Lib.hid hq
          clear hq
          go_wp2_with fail
          refine (rIndex_c _ _).mono ?_
          rintro e w' ⟨rfl, rfl⟩
          go_wp2_with fail
          refine (rNeg_c _ _).mono ?_
          rintro e w' ⟨rfl, rfl⟩
          go_wp2_with fail
          refine (rValue_c _ _ _ lc _ _ HSO.out).mono ?_
          rintro e w' ⟨rfl, rfl⟩
          rw [HQ.out]
          have hq3 : q = 1 ∨ q = 0 ∨ q = -1 := by omega
          clear hvb
          rcases hq3 with rfl | rfl | rfl
          · have HR : Hid (refuteV l cand p hs = 0) := by unfold Hid refuteV; rw [HR0.out, if_pos HQ.out]
            go_wp2_with fail
            go_ret
            exact ⟨ret_int HR.out.symm, HX.out⟩
          · have HR : Hid (refGo p l cand = refGo p (lc ++ [-x]) (cand.drop (k + 1))) := by unfold Hid; rw [HR0.out, if_neg (by rw [HQ.out]; decide), if_pos HQ.out]
            go_wp2_with (at_builtin; refine append1 _ rfl (.tmp 45) (.tmp 48) rfl w.heap.size _ lc rfl (HO.out.alloc _) _ _ _ rfl (cell_one _ _ _) (by omega) (by have := HLC.out; omega) (by simp; omega) ?_; intro v' w2 ho2 hg2 _; have HO2 := Lib.hid ho2; have HG2 := Lib.hid hg2; clear ho2 hg2)
            go_roundw
            case rel => exact ⟨k + 1, lc ++ [-x], by omega, by go_num, HR.out, by have := HLC.out; simp; omega, fun y hy => (List.mem_append.1 hy).elim (HB.out y) (fun e => by rw [List.mem_singleton.1 e]; omega), HO2.out, Ext.grown (HX.out.alloc _) HG2.out (fun j hj => (HO.out.blk j hj).1)⟩
            case measure => simp [intOf]; omega
          · have HR : Hid (refGo p l cand = refGo p lc (cand.drop (k + 1))) := by unfold Hid; rw [HR0.out, if_neg (by rw [HQ.out]; decide), if_neg (by rw [HQ.out]; decide)]
            go_wp2_with fail
            go_roundw
            case rel => exact ⟨k + 1, lc, by omega, by go_num, HR.out, by have := HLC.out; omega, HB.out, HO.out, HX.out⟩
            case measure => simp [intOf]; omega
    · have HR : Hid (refGo p l cand = some lc) := by
        unfold Hid
        rw [HC.out, List.drop_of_length_le (by have := HL1.out; omega)]; rfl
      go_wp2_with fail
      refine (rRupChain_c _ _ _ lc _ _ _ hs _ HSO.out (h2.ext HX.out) (by omega) (by omega)).mono ?_
      rintro e w2 ⟨A3, n3, c3, rfl, _, hx2⟩
      have HX2 := Lib.hid hx2
      clear hx2
      by_cases he : (chainV lc hs 0).2.2 = 0
      · have HR2 : Hid (refuteV l cand p hs = 0) := by unfold Hid refuteV; rw [HR.out]; exact if_pos he
        rw [he]
        clear he
        go_wp2_with fail
        go_ret
        exact ⟨ret_int HR2.out.symm, HX.out.trans HX2.out⟩
      · have HR2 : Hid (refuteV l cand p hs = 24) := by unfold Hid refuteV; rw [HR.out]; exact if_neg he
        have he1 : ((chainV lc hs 0).2.2 != 0) = true := by simpa using he
        clear he
        go_wp2_with fail
        go_ret
        exact ⟨ret_int HR2.out.symm, HX.out.trans HX2.out⟩
end Go.Proofs.YtdgflniahoidmaaGreat

namespace Go.Proofs.YtdgflniahoidmaaGreat
open Go.RowKit

/-- Numbered clauses, one behind the other; each with its room. -/
def NumAt (w : World) (ad : Addr) (j : Nat) (p : Int × List Int) : Prop :=
  ∃ A' n' c', w.cell? (ad.add (j * 2)) = some (.int .i64 p.1) ∧ w.cell? ⟨(ad.add (j * 2)).block, (ad.add (j * 2)).off + 1, none⟩ = some (.slice A' n' c') ∧ IntSl w A' n' p.2 ∧ n' ≤ c'
def RowsN (w : World) (A : Option Addr) (n : Nat) (R : List (Int × List Int)) : Prop :=
  R.length = n ∧ n ≤ 9223372036854775807 ∧ (0 < n → ∃ ad, A = some ad ∧ ∀ (j : Nat) (p : Int × List Int), R[j]? = some p → NumAt w ad j p)
theorem NumAt.ext {w w' : World} {ad : Addr} {j : Nat} {p : Int × List Int} (h : NumAt w ad j p) (hx : Ext w w') : NumAt w' ad j p := by
  obtain ⟨A, n, c, h1, h2, h3, h4⟩ := h
  exact ⟨A, n, c, hx.cell h1, hx.cell h2, h3.ext hx, h4⟩
theorem RowsN.ext {w w' : World} {A : Option Addr} {n : Nat} {R : List (Int × List Int)} (h : RowsN w A n R) (hx : Ext w w') : RowsN w' A n R :=
  ⟨h.1, h.2.1, fun hn => let ⟨ad, e, hc⟩ := h.2.2 hn; ⟨ad, e, fun j p hp => (hc j p hp).ext hx⟩⟩
theorem RowsN.nil (w : World) : RowsN w none 0 [] := ⟨rfl, by decide, fun h => absurd h (by omega)⟩
theorem RowsN.at_ {w : World} {A : Option Addr} {n : Nat} {R : List (Int × List Int)} (h : RowsN w A n R) {k : Nat} (hk : k < n) : ∃ ad p, A = some ad ∧ Hid (R[k]? = some p) ∧ NumAt w ad k p := by
  obtain ⟨ad, e, hc⟩ := h.2.2 (by omega)
  have hkl : k < R.length := by rw [h.1]; exact hk
  exact ⟨ad, R[k], e, List.getElem?_eq_getElem hkl, hc k _ (List.getElem?_eq_getElem hkl)⟩

def RetFind (R : List (Int × List Int)) (id : Int) (w : World) (e : Ending) (w' : World) : Prop :=
  ∃ A m c, e = .returned (.tuple #[.slice A m c, .bool (getR R id).isSome]) ∧ IntSl w A m ((getR R id).getD []) ∧ m ≤ c ∧ Ext w w'

set_option maxHeartbeats 4000000 in
theorem r11Find_c (A : Option Addr) (n c : Nat) (R : List (Int × List Int)) (last : Int) (done : Bool) (id : Int) (w : World) (h : RowsN w A n R) :
    Calls Tryz.prog 13 #[.agg #[.slice A n c, .int .i64 last, .bool done], .int .i64 id] w (RetFind R id w) := by
  have hn := h.2.1
  have HLN := Lib.hid h.1
  have HX0 := Lib.hid ((Ext.refl w).alloc (Obj.cells #[.slice A n c, .int .i64 last, .bool done] 38))
  have hb := Blk.new w 38 #[.slice A n c, .int .i64 last, .bool done]
  have b0 := hb.cell 0
  have HS := Lib.hid h
  clear h hb
  go_enter Tryz.func13, Tryz.ntmps13
  go_wp2
  go_loop [6] (fun i => ∃ k : Nat, k ≤ n ∧ i = .int .i64 k ∧ (R.take k).find? (fun p => p.1 == id) = none) (fun i => n - (intOf i).toNat)
  case atStart => exact ⟨0, Nat.zero_le _, rfl, rfl⟩
  case round =>
    obtain ⟨k, hk, rfl, hf⟩ := hrel
    have HF := Lib.hid hf
    clear hf
    by_cases hlt : k < n
    · obtain ⟨ad, p, rfl, hp, A1, n1, c1, q0, q1, hs1, hc1⟩ := HS.out.at_ hlt
      have q0' := HX0.out.cell q0
      have q1' := HX0.out.cell q1
      have HP := Lib.hid hp.out
      have HS1 := Lib.hid hs1
      clear hp hs1 q0 q1
      by_cases he : p.1 = id
      · have HG : Hid (getR R id = some p.2) := by
          unfold Hid getR
          rw [findR_hit HF.out HP.out (by simpa using he)]; rfl
        have heb : (p.1 == id) = true := by simpa using he
        clear he
        go_wp2
        go_ret2
        exact ⟨A1, n1, c1, by rw [HG.out]; rfl, by rw [HG.out]; exact HS1.out, hc1, HX0.out⟩
      · have heb : (p.1 == id) = false := by simpa using he
        clear he
        go_wp2
        go_round
        case rel => exact ⟨k + 1, by omega, by go_num, findR_snoc HF.out HP.out heb⟩
        case measure => simp [intOf]; omega
    · have HG : Hid (getR R id = none) := by
        have := HF.out
        rw [List.take_of_length_le (by rw [HLN.out]; omega)] at this
        unfold Hid getR
        rw [this]; rfl
      go_wp2
      go_ret2
      exact ⟨none, 0, 0, by rw [HG.out]; rfl, by rw [HG.out]; exact IntSl.nil w, Nat.le_refl _, HX0.out⟩
end Go.Proofs.YtdgflniahoidmaaGreat
