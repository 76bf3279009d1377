/- The reference of layer 11: one numbered clause is appended. -/
import Derived.Test.YtdgflniahoidmaaGreatLz7
import Derived.Test.YtdgflniahoidmaaGreatLr22
set_option maxRecDepth 100000
namespace Go.Proofs.YtdgflniahoidmaaGreat
open Go.RowKit

theorem r11Size_c (x : Int) (w : World) (hx : -1000000000 ≤ x ∧ x ≤ 1000000000) : Calls Tryz.prog 50 #[.int .i64 x] w fun e w' => e = .returned (.int .i64 (max x (-x))) ∧ w = w' := by
  by_cases h : x < 0
  · go_enter Tryz.func50, Tryz.ntmps50
    go_wp2
    go_ret
    exact ⟨ret_int (by omega), rfl⟩
  · go_enter Tryz.func50, Tryz.ntmps50
    go_wp2
    go_ret
    exact ⟨ret_int (by omega), rfl⟩

set_option maxHeartbeats 2000000 in
theorem r11Ids_c (A : Option Addr) (n c : Nat) (R : List (Int × List Int)) (last : Int) (done : Bool) (w : World) (h : RowsN w A n R) (hb : ∀ p ∈ R, 1 ≤ p.1 ∧ p.1 ≤ 10000000) (hsm : n ≤ 1000000) :
    Calls Tryz.prog 34 #[.agg #[.slice A n c, .int .i64 last, .bool done]] w (RetOwn (idsR R) w) := by
  have HLN := Lib.hid h.1
  have HX0 := Lib.hid ((Ext.refl w).alloc (Obj.cells #[.slice A n c, .int .i64 last, .bool done] 38))
  have HB0 := Lib.hid (Blk.new w 38 #[.slice A n c, .int .i64 last, .bool done])
  have HS := Lib.hid (h.ext HX0.out)
  have HBD := Lib.hid hb
  clear h hb
  go_enter Tryz.func34, Tryz.ntmps34
  go_wp2_with fail
  go_loopw [3, 4] (fun o i wr => ∃ k : Nat, k ≤ n ∧ i = .int .i64 k ∧ OwnI wr (w.heap.size + 1) o (idsR (R.take k)) ∧ Ext (w.alloc (Obj.cells #[.slice A n c, .int .i64 last, .bool done] 38)) wr) (fun _ i _ => n - (intOf i).toNat)
  case atStart => exact ⟨0, Nat.zero_le _, rfl, OwnI.nil _ _, Ext.refl _⟩
  case round =>
    obtain ⟨k, hk, rfl, ho, hx⟩ := hrel
    have HO := Lib.hid ho
    have HX := Lib.hid hx
    have HSZ : Hid (w.heap.size + 1 ≤ wr.heap.size) := by have := hx.size_le; rw [World.size_alloc] at this; exact this
    have b0 := (HB0.out.ext hx).cell 0
    have hil : (idsR (R.take k)).length ≤ k := by rw [idsR_len, List.length_take]; omega
    clear ho hx
    by_cases hlt : k < n
    · obtain ⟨ad, p, rfl, hp, A1, n1, c1, q0, q1, hs1, hc1⟩ := (HS.out.ext HX.out).at_ hlt
      have hpb := HBD.out p (List.mem_of_getElem? hp.out)
      have HT : Hid (idsR (R.take (k + 1)) = idsR (R.take k) ++ [p.1]) := by unfold Hid idsR; rw [take_succ_of hp.out, List.map_append]; rfl
      clear hp hs1 hc1 q1
      go_wp2_with (at_builtin; refine append1 _ rfl _ _ rfl (w.heap.size + 1) _ _ rfl (HO.out.alloc _) _ _ _ rfl (cell_one _ _ _) (by omega) (by omega) (by have := HSZ.out; simp; omega) ?_; intro v' w2 ho2 hg2 _; have HO2 := Lib.hid ho2; have HX2 : Hid (Ext (w.alloc (Obj.cells #[.slice (some ad) n c, .int .i64 last, .bool done] 38)) w2) := Ext.grown (HX.out.alloc _) hg2 (fun j hj => by have h1 := (HO.out.blk j hj).1; rw [World.size_alloc]; exact h1); clear ho2 hg2)
      go_roundw
      case rel => exact ⟨k + 1, by omega, by go_num, by rw [HT.out]; exact HO2.out, HX2.out⟩
      case measure => simp [intOf]; omega
    · have HO2 : Hid (OwnI wr (w.heap.size + 1) u3 (idsR R)) := by
        have e := HO.out
        rw [List.take_of_length_le (by rw [HLN.out]; omega)] at e
        exact e
      go_wp2_with fail
      go_ret
      exact ⟨_, rfl, HO2.out.less (by omega), HX0.out.trans HX.out⟩
end Go.Proofs.YtdgflniahoidmaaGreat

namespace Go.Proofs.YtdgflniahoidmaaGreat
open Go.RowKit

set_option maxHeartbeats 4000000 in
theorem r11There_c (A : Option Addr) (n c : Nat) (R : List (Int × List Int)) (last : Int) (done : Bool) (A' : Option Addr) (n' c' : Nat) (l : List Int) (w : World) (h : RowsN w A n R) (h' : IntSl w A' n' l) (hh : HintsIn l) :
    Calls Tryz.prog 31 #[.agg #[.slice A n c, .int .i64 last, .bool done], .slice A' n' c'] w fun e w' => e = .returned (.bool (thereV R l)) ∧ Ext w w' := by
  have hn := h'.len
  have HLN := Lib.hid h'.1
  have HX0 := Lib.hid ((Ext.refl w).alloc (Obj.cells #[.slice A n c, .int .i64 last, .bool done] 38))
  have HB0 := Lib.hid (Blk.new w 38 #[.slice A n c, .int .i64 last, .bool done])
  have HS := Lib.hid (h.ext HX0.out)
  have HS' := Lib.hid (h'.ext HX0.out)
  have HH := Lib.hid hh
  have HTH : Hid (thereV R l = !l.any fun x => !(getR R (max x (-x))).isSome) := rfl
  clear h h' hh
  go_enter Tryz.func31, Tryz.ntmps31
  go_wp2_with fail
  go_loopw [5] (fun i wr => ∃ k : Nat, k ≤ n' ∧ i = .int .i64 k ∧ ((l.take k).any fun x => !(getR R (max x (-x))).isSome) = false ∧ Ext (w.alloc (Obj.cells #[.slice A n c, .int .i64 last, .bool done] 38)) wr) (fun i _ => n' - (intOf i).toNat)
  case atStart => exact ⟨0, Nat.zero_le _, rfl, rfl, Ext.refl _⟩
  case round =>
    obtain ⟨k, hk, rfl, ha, hx⟩ := hrel
    have HA := Lib.hid ha
    have HX := Lib.hid hx
    have HB := Lib.hid (HB0.out.ext hx)
    have b0 := HB.out.cell 0
    have b1 := HB.out.cell 1
    have b2 := HB.out.cell 2
    clear ha hx
    by_cases hlt : k < n'
    · obtain ⟨ad, x, rfl, hxk, hcx, hx1, hx2⟩ := (HS'.out.ext HX.out).at_ hlt
      have hxb := HH.out x (List.mem_of_getElem? hxk.out)
      have HT := Lib.hid (take_succ_of hxk.out)
      have HXK := Lib.hid hxk.out
      obtain ⟨g, hg⟩ : ∃ g, getR R (max x (-x)) = g := ⟨_, rfl⟩
      have HG := Lib.hid hg
      clear hxk hg
      go_wp2_with fail
      go_region_law
        ((first
          | (go_simp; (with_reducible refine (r11Size_c x _ (by omega)).mono ?_); rintro e w' ⟨rfl, rfl⟩)
          | (go_simp; (with_reducible refine (r11Find_c _ _ _ R last done (max x (-x)) _ (HS.out.ext HX.out.drew)).mono ?_); rintro e w4 ⟨A4, m4, c4, rfl, _, _, hx4⟩; rw [HG.out]; have HX4 := Lib.hid (HX.out.drew.trans hx4); clear hx4)))
      all_goals
        clear b0 b1 b2 hcx
        cases g with
        | none =>
          have HR : Hid (thereV R l = false) := by
            unfold Hid
            rw [HTH.out, Bool.not_eq_false', List.any_eq_true]
            exact ⟨x, List.mem_of_getElem? HXK.out, by rw [HG.out]; rfl⟩
          go_wp2_with fail
          go_ret
          exact ⟨ret_bool HR.out.symm, HX0.out.trans HX4.out⟩
        | some cl =>
          go_wp2_with fail
          go_roundw
          case rel => exact ⟨k + 1, by omega, by go_num, by rw [HT.out, List.any_append, HA.out]; simp [HG.out], HX4.out⟩
          case measure => simp [intOf]; omega
    · have HR : Hid (thereV R l = true) := by
        have e := HA.out
        rw [List.take_of_length_le (by rw [HLN.out]; omega)] at e
        unfold Hid
        rw [HTH.out, e]; rfl
      go_wp2_with fail
      go_ret
      exact ⟨ret_bool HR.out.symm, HX0.out.trans HX.out⟩
end Go.Proofs.YtdgflniahoidmaaGreat

namespace Go.Proofs.YtdgflniahoidmaaGreat
open Go.RowKit

def RetFindO (w0 : World) (R : List (Int × List Int)) (id : Int) (w : World) (e : Ending) (w' : World) : Prop :=
  ∃ A m c, e = .returned (.tuple #[.slice A m c, .bool (getR R id).isSome]) ∧ IntSl w0 A m ((getR R id).getD []) ∧ m ≤ c ∧ Ext w w'

set_option maxHeartbeats 4000000 in
theorem r11FindO_c (A : Option Addr) (n c : Nat) (R : List (Int × List Int)) (last : Int) (done : Bool) (id : Int) (w0 w : World) (h : RowsN w0 A n R) (hW : Ext w0 w) :
    Calls Tryz.prog 13 #[.agg #[.slice A n c, .int .i64 last, .bool done], .int .i64 id] w (RetFindO w0 R id w) := by
  have hn := h.2.1
  have HLN := Lib.hid h.1
  have HX0 := Lib.hid ((Ext.refl w).alloc (Obj.cells #[.slice A n c, .int .i64 last, .bool done] 38))
  have hb := Blk.new w 38 #[.slice A n c, .int .i64 last, .bool done]
  have b0 := hb.cell 0
  have HS := Lib.hid h
  have HWX := Lib.hid (hW.trans HX0.out)
  clear h hb hW
  go_enter Tryz.func13, Tryz.ntmps13
  go_wp2
  go_loop [6] (fun i => ∃ k : Nat, k ≤ n ∧ i = .int .i64 k ∧ (R.take k).find? (fun p => p.1 == id) = none) (fun i => n - (intOf i).toNat)
  case atStart => exact ⟨0, Nat.zero_le _, rfl, rfl⟩
  case round =>
    obtain ⟨k, hk, rfl, hf⟩ := hrel
    have HF := Lib.hid hf
    clear hf
    by_cases hlt : k < n
    · obtain ⟨ad, p, rfl, hp, A1, n1, c1, q0, q1, hs1, hc1⟩ := HS.out.at_ hlt
      have q0' := HWX.out.cell q0
      have q1' := HWX.out.cell q1
      have HP := Lib.hid hp.out
      have HS1 := Lib.hid hs1
      clear hp hs1 q0 q1
      by_cases he : p.1 = id
      · have HG : Hid (getR R id = some p.2) := by
          unfold Hid getR
          rw [findR_hit HF.out HP.out (by simpa using he)]; rfl
        have heb : (p.1 == id) = true := by simpa using he
        clear he
        go_wp2
        go_ret2
        exact ⟨A1, n1, c1, by rw [HG.out]; rfl, by rw [HG.out]; exact HS1.out, hc1, HX0.out⟩
      · have heb : (p.1 == id) = false := by simpa using he
        clear he
        go_wp2
        go_round
        case rel => exact ⟨k + 1, by omega, by go_num, findR_snoc HF.out HP.out heb⟩
        case measure => simp [intOf]; omega
    · have HG : Hid (getR R id = none) := by
        have := HF.out
        rw [List.take_of_length_le (by rw [HLN.out]; omega)] at this
        unfold Hid getR
        rw [this]; rfl
      go_wp2
      go_ret2
      exact ⟨none, 0, 0, by rw [HG.out]; rfl, by rw [HG.out]; exact IntSl.nil w0, Nat.le_refl _, HX0.out⟩

set_option maxHeartbeats 4000000 in
theorem r11Rows_c (A : Option Addr) (n c : Nat) (R : List (Int × List Int)) (last : Int) (done : Bool) (A' : Option Addr) (n' c' : Nat) (l : List Int) (w : World) (h : RowsN w A n R) (h' : IntSl w A' n' l) (hsm : n' ≤ 100000000) :
    Calls Tryz.prog 53 #[.agg #[.slice A n c, .int .i64 last, .bool done], .slice A' n' c'] w (RetRows11 w R l w) := by
  have hn := h'.len
  have HLN := Lib.hid h'.1
  have HX0 := Lib.hid ((Ext.refl w).alloc (Obj.cells #[.slice A n c, .int .i64 last, .bool done] 38))
  have HB0 := Lib.hid (Blk.new w 38 #[.slice A n c, .int .i64 last, .bool done])
  have HS := Lib.hid h
  have HS' := Lib.hid (h'.ext HX0.out)
  clear h h'
  go_enter Tryz.func53, Tryz.ntmps53
  go_wp2_with fail
  go_loopw [5, 6] (fun v i wr => ∃ k : Nat, k ≤ n' ∧ i = .int .i64 k ∧ OwnR w wr (w.heap.size + 1) v (rowsR R (l.take k)) ∧ Ext (w.alloc (Obj.cells #[.slice A n c, .int .i64 last, .bool done] 38)) wr) (fun _ i _ => n' - (intOf i).toNat)
  case atStart => exact ⟨0, Nat.zero_le _, rfl, OwnR.nil _ _ _, Ext.refl _⟩
  case round =>
    obtain ⟨k, hk, rfl, ho, hx⟩ := hrel
    have HO := Lib.hid ho
    have HX := Lib.hid hx
    have HSZ : Hid (w.heap.size + 1 ≤ wr.heap.size) := by have := hx.size_le; rw [World.size_alloc] at this; exact this
    have HB := Lib.hid (HB0.out.ext hx)
    have b0 := HB.out.cell 0
    have b1 := HB.out.cell 1
    have b2 := HB.out.cell 2
    clear ho hx
    by_cases hlt : k < n'
    · obtain ⟨ad, x, rfl, hxk, hcx, hx1, hx2⟩ := (HS'.out.ext HX.out).at_ hlt
      have HT : Hid (rowsR R (l.take (k + 1)) = rowsR R (l.take k) ++ [(getR R x).getD []]) := by unfold Hid; rw [take_succ_of hxk.out, rowsR_snoc]
      have HLK : Hid ((rowsR R (l.take k)).length = k) := by unfold Hid; rw [rowsR_len, List.length_take, HLN.out]; omega
      clear hxk
      go_wp2_with fail
      go_region_law
        ((first
          | (go_simp; (with_reducible refine (r11FindO_c _ _ _ R last done x w _ HS.out (HX0.out.trans HX.out.drew)).mono ?_); rintro e w4 ⟨A4, m4, c4, rfl, hs4, _, hx4⟩; have HX4 := Lib.hid (HX.out.drew.trans hx4); have HO4 := Lib.hid (HO.out.ext ((Ext.drew (Ext.refl wr)).trans hx4)); have HZ4 : Hid (w.heap.size + 1 ≤ w4.heap.size) := (by have := HX4.out.size_le; rw [World.size_alloc] at this; exact this); have HS4 := Lib.hid hs4; clear hx4 hs4)))
      all_goals
        clear b0 b1 b2 hcx
        go_wp2_with (at_builtin; refine appendR1 w _ rfl _ _ rfl (w.heap.size + 1) _ (rowsR R (l.take k)) rfl (HO4.out.alloc _) _ _ A4 m4 c4 ((getR R x).getD []) rfl (cell_one _ _ _) HS4.out (by have := HLK.out; omega) (by have := HZ4.out; simp; omega) ?_; intro v' w2 ho2 hg2 _; have HO2 := Lib.hid ho2; have HX2 : Hid (Ext (w.alloc (Obj.cells #[.slice A n c, .int .i64 last, .bool done] 38)) w2) := Ext.grown (HX4.out.alloc _) hg2 (fun j hj => by have h1 := (HO4.out.blk j hj).1; rw [World.size_alloc]; exact h1); clear ho2 hg2)
        go_roundw
        case rel => exact ⟨k + 1, by omega, by go_num, by rw [HT.out]; exact HO2.out, HX2.out⟩
        case measure => simp [intOf]; omega
    · have HO2 : Hid (OwnR w wr (w.heap.size + 1) u5 (rowsR R l)) := by
        have e := HO.out
        rw [List.take_of_length_le (by rw [HLN.out]; omega)] at e
        exact e
      go_wp2_with fail
      go_ret
      exact ⟨_, rfl, HO2.out.less (by omega), HX0.out.trans HX.out⟩
end Go.Proofs.YtdgflniahoidmaaGreat

namespace Go.Proofs.YtdgflniahoidmaaGreat
open Go.RowKit

theorem getR_dropR (R : List (Int × List Int)) (l : List Int) (x : Int) : getR (dropR R l) x = if hasV l x then none else getR R x := by
  unfold getR dropR
  cases hx : hasV l x with
  | true =>
    rw [if_pos rfl, Option.map_eq_none_iff, List.find?_eq_none]
    intro p hp
    have h2 := (List.mem_filter.1 hp).2
    intro e
    have : p.1 = x := by simpa using e
    rw [this, hx] at h2
    cases h2
  | false =>
    rw [if_neg (by simp)]
    congr 1
    induction R with
    | nil => rfl
    | cons q R ih =>
      rw [List.filter_cons, List.find?_cons]
      by_cases h : q.1 = x
      · have hh : (!hasV l q.1) = true := by rw [h, hx]; rfl
        rw [if_pos hh, List.find?_cons, show (q.1 == x) = true by simpa using h]
      · have hq : (q.1 == x) = false := by simpa using h
        rw [hq]
        split
        · rw [List.find?_cons, hq]; exact ih
        · exact ih
/-- Hints from 1 on: each was found, as far as k. -/
def DropAt (R : List (Int × List Int)) (l : List Int) (k : Nat) : Prop := ∀ i x, i < k → l[i]? = some x → (getR (dropR R (l.take i)) x).isSome = true
theorem DropAt.bad {R : List (Int × List Int)} {l : List Int} {k : Nat} {x : Int} (hl : ∀ y ∈ l, 1 ≤ y) (hx : l[k]? = some x) (h : getR (dropR R (l.take k)) x = none) : dropOk R l = false := by
  have hm := List.mem_of_getElem? hx
  have h1 := hl x hm
  rw [getR_dropR] at h
  unfold dropOk
  rw [Bool.and_eq_false_iff]
  by_cases hh : hasV (l.take k) x = true
  · left
    have hn : ¬ l.Nodup := by
      intro hn
      obtain ⟨i, hi⟩ := List.mem_iff_getElem?.1 (hasV_mem.1 hh)
      have hik : i < k := by have := (List.getElem?_eq_some_iff.1 hi).1; rw [List.length_take] at this; omega
      rw [List.getElem?_take_of_lt hik] at hi
      have g1 := List.getElem?_eq_some_iff.1 hi
      have g2 := List.getElem?_eq_some_iff.1 hx
      exact List.pairwise_iff_getElem.1 hn i k g1.1 g2.1 hik (g1.2.trans g2.2.symm)
    have h2 := dedL_len l
    have h3 : ¬ (dedL l).length = l.length := fun e => hn ((dedL_nodup l).1 e)
    rw [decide_eq_true (by omega)]; rfl
  · right
    rw [if_neg hh] at h
    unfold thereV
    rw [Bool.not_eq_false', List.any_eq_true]
    exact ⟨x, hm, by rw [show max x (-x) = x by omega, h]; rfl⟩
theorem DropAt.done {R : List (Int × List Int)} {l : List Int} (hl : ∀ y ∈ l, 1 ≤ y) (h : DropAt R l l.length) : dropOk R l = true := by
  have key : ∀ i x, l[i]? = some x → hasV (l.take i) x = false ∧ (getR R x).isSome = true := fun i x hx => by
    have := h i x (List.getElem?_eq_some_iff.1 hx).1 hx
    rw [getR_dropR] at this
    cases hh : hasV (l.take i) x with
    | true => rw [hh, if_pos rfl] at this; cases this
    | false => rw [hh, if_neg (by simp)] at this; exact ⟨rfl, this⟩
  unfold dropOk
  rw [Bool.and_eq_true]
  constructor
  · have hn : l.Nodup := by
      refine List.pairwise_iff_getElem.2 fun i j hi hj hij e => ?_
      have h1 := (key j l[j] (List.getElem?_eq_getElem hj)).1
      have : hasV (l.take j) l[j] = true := hasV_mem.2 (List.mem_iff_getElem?.2 ⟨i, by rw [List.getElem?_take_of_lt hij, List.getElem?_eq_getElem hi, e]⟩)
      rw [h1] at this; cases this
    rw [(dedL_nodup l).2 hn]; simp
  · unfold thereV
    rw [Bool.not_eq_true', List.any_eq_false]
    intro x hx
    obtain ⟨i, hi⟩ := List.mem_iff_getElem?.1 hx
    have h1 := hl x hx
    rw [show max x (-x) = x by omega, (key i x hi).2]; simp
end Go.Proofs.YtdgflniahoidmaaGreat

namespace Go.Proofs.YtdgflniahoidmaaGreat
open Go.RowKit

theorem eltN : Elt 36 62 (.agg #[.int .i64 0, .slice none 0 0]) 2 32 := ⟨Tryz.underlying36, by kernel_rfl, rfl, by decide, by decide⟩
def encN (u : Value × Value) : List Value := [u.1, u.2]
theorem encN_len (u : Value × Value) : (encN u).length = 2 := rfl
def ReadN (w0 : World) (us : List (Value × Value)) (R : List (Int × List Int)) : Prop :=
  us.length = R.length ∧ ∀ (j : Nat) (p : Int × List Int), R[j]? = some p → ∃ A n c, us[j]? = some (.int .i64 p.1, .slice A n c) ∧ IntSl w0 A n p.2 ∧ n ≤ c
def OwnN (w0 w : World) (base : Nat) (v : Value) (R : List (Int × List Int)) : Prop :=
  ∃ us : List (Value × Value), OwnV w base 62 2 v R.length (us.flatMap encN) ∧ ReadN w0 us R
theorem OwnN.nil (w0 w : World) (base : Nat) : OwnN w0 w base (.slice none 0 0) [] := ⟨[], OwnV.nil _ _ _ _, rfl, fun _ _ h => by simp at h⟩
theorem OwnN.ext {w0 w w' : World} {base : Nat} {v : Value} {R : List (Int × List Int)} (h : OwnN w0 w base v R) (hx : Ext w w') : OwnN w0 w' base v R := let ⟨us, h1, h2⟩ := h; ⟨us, h1.ext hx, h2⟩
theorem OwnN.less {w0 w : World} {a base : Nat} {v : Value} {R : List (Int × List Int)} (h : OwnN w0 w base v R) (ha : a ≤ base) : OwnN w0 w a v R := let ⟨us, h1, h2⟩ := h; ⟨us, h1.less ha, h2⟩
theorem OwnN.blk {w0 w : World} {base : Nat} {v : Value} {R : List (Int × List Int)} (h : OwnN w0 w base v R) : ∀ k, v.ownBlock = some k → base ≤ k ∧ k < w.heap.size := let ⟨_, h1, _⟩ := h; h1.blk
theorem ReadN.snoc {w0 : World} {us : List (Value × Value)} {R : List (Int × List Int)} (h : ReadN w0 us R) {p : Int × List Int} {A : Option Addr} {n c : Nat} (hs : IntSl w0 A n p.2) (hc : n ≤ c) : ReadN w0 (us ++ [(.int .i64 p.1, .slice A n c)]) (R ++ [p]) := by
  refine ⟨by simp [h.1], fun j q hq => ?_⟩
  by_cases hj : j < R.length
  · rw [List.getElem?_append_left hj] at hq
    obtain ⟨A1, n1, c1, e1, e2, e3⟩ := h.2 j q hq
    exact ⟨A1, n1, c1, by rw [List.getElem?_append_left (by rw [h.1]; exact hj)]; exact e1, e2, e3⟩
  · have hj0 : j - R.length = 0 := by have := (List.getElem?_eq_some_iff.1 hq).1; simp at this; omega
    rw [List.getElem?_append_right (by omega), hj0] at hq
    simp at hq
    subst hq
    exact ⟨A, n, c, by rw [List.getElem?_append_right (by rw [h.1]; omega), h.1, hj0]; rfl, hs, hc⟩
theorem OwnN.snoc {w0 w' : World} {base : Nat} {v' : Value} {us : List (Value × Value)} {R : List (Int × List Int)} {p : Int × List Int} {A : Option Addr} {n c : Nat} (hr : ReadN w0 us R) (hs : IntSl w0 A n p.2) (hc : n ≤ c)
    (hv : OwnV w' base 62 2 v' (R.length + 1) (us.flatMap encN ++ [.int .i64 p.1, .slice A n c])) : OwnN w0 w' base v' (R ++ [p]) := by
  refine ⟨us ++ [(.int .i64 p.1, .slice A n c)], ?_, hr.snoc hs hc⟩
  rw [List.length_append, List.flatMap_append, show [((.int .i64 p.1 : Value), (.slice A n c : Value))].flatMap encN = [.int .i64 p.1, .slice A n c] from rfl]
  exact hv
theorem add_posN (a : Addr) (i : Nat) : a.add (i + 1) = ⟨(a.add i).block, (a.add i).off + 1, none⟩ := by
  rw [← Addr.add_add]
  generalize a.add i = b
  unfold Addr.add
  rw [if_neg (by omega)]
/-- Read as numbered clauses. -/
theorem OwnN.rows {w0 w : World} {base : Nat} {v : Value} {R : List (Int × List Int)} (h : OwnN w0 w base v R) (hx : Ext w0 w) (hn : R.length ≤ 9223372036854775807) : ∃ A n c, v = .slice A n c ∧ RowsN w A n R ∧ n ≤ c := by
  obtain ⟨us, h1, h2, h3⟩ := h
  obtain ⟨A, c, e, hs, hc⟩ := h1.sl hn
  refine ⟨A, R.length, c, e, ⟨rfl, hn, fun hp => ?_⟩, hc⟩
  obtain ⟨ad, e2, hcell⟩ := hs.2.2 hp
  refine ⟨ad, e2, fun j p hj => ?_⟩
  obtain ⟨A1, n1, c1, g1, g2, g3⟩ := h3 j p hj
  refine ⟨A1, n1, c1, ?_, ?_, g2.ext hx, g3⟩
  · exact hcell _ _ (flat_get encN_len g1 (k := 0) (by decide))
  · rw [← add_posN]
    exact hcell _ _ (flat_get encN_len g1 (k := 1) (by decide))
end Go.Proofs.YtdgflniahoidmaaGreat

namespace Go.Proofs.YtdgflniahoidmaaGreat
open Go.RowKit

/-- Numbered clauses whose literals lie in an older world; their row lies outside of some blocks. -/
def RowsNO (F : Nat → Prop) (w0 w : World) (A : Option Addr) (n : Nat) (R : List (Int × List Int)) : Prop :=
  R.length = n ∧ n ≤ 9223372036854775807 ∧ (0 < n → ∃ ad, A = some ad ∧ ¬ F ad.block ∧ ∀ (j : Nat) (p : Int × List Int), R[j]? = some p →
    ∃ A' n' c', w.cell? (ad.add (j * 2)) = some (.int .i64 p.1) ∧ w.cell? ⟨(ad.add (j * 2)).block, (ad.add (j * 2)).off + 1, none⟩ = some (.slice A' n' c') ∧ IntSl w0 A' n' p.2 ∧ n' ≤ c')
theorem RowsNO.toN {F : Nat → Prop} {w0 w : World} {A : Option Addr} {n : Nat} {R : List (Int × List Int)} (h : RowsNO F w0 w A n R) (hx : Ext w0 w) : RowsN w A n R :=
  ⟨h.1, h.2.1, fun hn => let ⟨ad, e, _, hc⟩ := h.2.2 hn; ⟨ad, e, fun j p hp => let ⟨A', n', c', h1, h2, h3, h4⟩ := hc j p hp; ⟨A', n', c', h1, h2, h3.ext hx, h4⟩⟩⟩
theorem RowsNO.stay {F : Nat → Prop} {w0 w w' : World} {A : Option Addr} {n : Nat} {R : List (Int × List Int)} (h : RowsNO F w0 w A n R) (hs : Stay F w w') : RowsNO F w0 w' A n R :=
  ⟨h.1, h.2.1, fun hn => let ⟨ad, e, ho, hc⟩ := h.2.2 hn; ⟨ad, e, ho, fun j p hp => let ⟨A', n', c', h1, h2, h3, h4⟩ := hc j p hp; ⟨A', n', c', hs.cell h1 (by rw [block_add]; exact ho), hs.cell h2 (by show ¬ F (ad.add (j * 2)).block; rw [block_add]; exact ho), h3, h4⟩⟩⟩
/-- The argument's own rows. -/
theorem RowsN.outside {w : World} {A : Option Addr} {n : Nat} {R : List (Int × List Int)} (h : RowsN w A n R) (F : Nat → Prop) (hF : ∀ b, F b → w.heap.size ≤ b) : RowsNO F w w A n R :=
  ⟨h.1, h.2.1, fun hn => by
    obtain ⟨ad, e, hc⟩ := h.2.2 hn
    refine ⟨ad, e, fun hb => ?_, hc⟩
    have hl : 0 < R.length := by rw [h.1]; exact hn
    obtain ⟨_, _, _, h1, _⟩ := hc 0 _ (List.getElem?_eq_getElem hl)
    have := World.block_lt_of_cell? _ _ h1
    rw [block_add] at this
    have := hF _ hb
    omega⟩
/-- Rows that the call owns. -/
theorem OwnN.outside {w0 w : World} {base : Nat} {v : Value} {R : List (Int × List Int)} (h : OwnN w0 w base v R) (F : Nat → Prop) (hF : ∀ b, F b → b < base) (hn : R.length ≤ 9223372036854775807) : ∃ A n c, v = .slice A n c ∧ RowsNO F w0 w A n R ∧ n ≤ c := by
  have hblk := h.blk
  obtain ⟨us, h1, h2, h3⟩ := h
  obtain ⟨A, c, e, hs, hc⟩ := h1.sl hn
  refine ⟨A, R.length, c, e, ⟨rfl, hn, fun hp => ?_⟩, hc⟩
  obtain ⟨ad, e2, hcell⟩ := hs.2.2 hp
  refine ⟨ad, e2, fun hb => ?_, fun j p hj => ?_⟩
  · have := hblk ad.block (by rw [e, e2]; rfl)
    have := hF _ hb
    omega
  obtain ⟨A1, n1, c1, g1, g2, g3⟩ := h3 j p hj
  refine ⟨A1, n1, c1, ?_, ?_, g2, g3⟩
  · exact hcell _ _ (flat_get encN_len g1 (k := 0) (by decide))
  · rw [← add_posN]
    exact hcell _ _ (flat_get encN_len g1 (k := 1) (by decide))
end Go.Proofs.YtdgflniahoidmaaGreat

namespace Go.Proofs.YtdgflniahoidmaaGreat
open Go.RowKit

theorem SlV.new1N (w : World) (cs : Array Value) (t : TypeId) : SlV (w.alloc (.cells cs t)) (some ⟨w.heap.size, 0, none⟩) 1 cs.size cs.toList :=
  ⟨by simp, by decide, fun _ => ⟨_, rfl, fun j u hj => by
    have e : (⟨w.heap.size, 0, none⟩ : Addr).add j = ⟨w.heap.size, j, none⟩ := by unfold Addr.add; split <;> simp_all
    rw [e, cell_of_row (w.alloc (.cells cs t)) w.heap.size j cs t (0, 0) (heap_alloc_new w _)]
    simpa using hj⟩⟩

/-- 'append(v, x)' of a numbered clause. -/
theorem appendN (w0 w : World) {ops : Array Oper} {rest : List Oper} {o : Oper} {a : Act} {Q : Exit → Act → World → Prop} (hgd : o.guard = none) (s x : Operand)
    (ho : o.op = .call { callee := .builtin .append, args := #[s, x], argTypes := #[36, 36] })
    (base : Nat) (v : Value) (R : List (Int × List Int)) (hs : a.eval s = v) (hown : OwnN w0 w base v R) (A : Option Addr) (c : Nat) (p : Int × List Int) (A5 : Option Addr) (n5 c5 : Nat) (hx : a.eval x = .slice A 1 c) (hy : SlV w A 1 2 [.int .i64 p.1, .slice A5 n5 c5])
    (h5 : IntSl w0 A5 n5 p.2) (hc5 : n5 ≤ c5) (hb : R.length + 1 ≤ 1000000000000) (hbase : base ≤ w.heap.size)
    (h : ∀ v' w', OwnN w0 w' base v' (R ++ [p]) → w.grownBy w' v.ownBlock → (v'.ownBlock = v.ownBlock ∨ v'.ownBlock = some w.heap.size) → wpList Tryz.prog ops Q rest (a.put o.dst v') w') : wpList Tryz.prog ops Q (o :: rest) a w := by
  obtain ⟨us, h1, h2⟩ := hown
  exact appendV eltN w hgd s x ho base v R.length _ hs h1 A 1 c _ hx hy (by intro u hu; simp at hu; rcases hu with rfl | rfl <;> rfl) hb hbase (fun v' w' k1 k2 k3 => h v' w' (OwnN.snoc h2 h5 hc5 k1) k2 k3)

theorem step_appendN (w0 w : World) {ops : Array Oper} {o : Oper} {a : Act} {K : Act → World → Prop} {Q : Exit → Act → World → Prop} {X : Prop} (hgd : o.guard = none) (s x : Operand)
    (ho : o.op = .call { callee := .builtin .append, args := #[s, x], argTypes := #[36, 36] })
    (base : Nat) (v : Value) (R : List (Int × List Int)) (hs : a.eval s = v) (hown : OwnN w0 w base v R) (A : Option Addr) (c : Nat) (p : Int × List Int) (A5 : Option Addr) (n5 c5 : Nat) (hx : a.eval x = .slice A 1 c) (hy : SlV w A 1 2 [.int .i64 p.1, .slice A5 n5 c5])
    (h5 : IntSl w0 A5 n5 p.2) (hc5 : n5 ≤ c5) (hb : R.length + 1 ≤ 1000000000000) (hbase : base ≤ w.heap.size)
    (h : ∀ A' n' c' w', OwnN w0 w' base (.slice A' n' c') (R ++ [p]) → w.grownBy w' v.ownBlock → ((Value.slice A' n' c').ownBlock = v.ownBlock ∨ (Value.slice A' n' c').ownBlock = some w.heap.size) → K (a.put o.dst (.slice A' n' c')) w') :
    if Region.wanted o (yielded ops a.tmps) = true then Oper.wp Tryz.prog o a w K Q else X := by
  obtain ⟨us, h1, h2⟩ := hown
  exact step_appendV eltN w hgd s x ho base v R.length _ hs h1 A 1 c _ hx hy (by intro u hu; simp at hu; rcases hu with rfl | rfl <;> rfl) hb hbase (fun A' n' c' w' k1 k2 k3 => h A' n' c' w' (OwnN.snoc h2 h5 hc5 k1) k2 k3)
theorem OwnN.alloc {w0 w : World} {base : Nat} {v : Value} {R : List (Int × List Int)} (h : OwnN w0 w base v R) (o : Obj) : OwnN w0 (w.alloc o) base v R := h.ext ((Ext.refl w).alloc o)
end Go.Proofs.YtdgflniahoidmaaGreat
