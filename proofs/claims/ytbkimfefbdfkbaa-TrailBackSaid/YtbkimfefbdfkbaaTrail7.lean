/- Layer 13 (trail): the reference's trail, and what is told of it. -/
import Derived.Test.YtbkimfefbdfkbaaTrailP
import Derived.Test.YtbkimfefbdfkbaaStill
import Derived.Test.YtbkimfefbdfkbaaApp
set_option maxRecDepth 100000
namespace Go.Proofs.Ytbkimfefbdfkbaa
open Go.RowKit

theorem eltT : Elt 28 49 (.agg #[.int .i64 0, .int .i64 0, .int .i64 0]) 3 24 := ⟨Try.underlying28, by kernel_rfl, rfl, by decide, by decide⟩
def encT (r : TRow) : List Value := [.int .i64 r.lit, .int .i64 r.level, .int .i64 r.reason]
theorem encT_len (r : TRow) : (encT r).length = 3 := rfl
def RowsT (w : World) (base : Nat) (v : Value) (rows : List TRow) : Prop := OwnV w base 49 3 v rows.length (rows.flatMap encT)
/-- The reference's trail, as a value. -/
def RT (w : World) (base : Nat) (v : Value) (S : TSt) : Prop := ∃ sv, v = .agg #[.int .i64 S.vars, sv, .int .i64 S.depth] ∧ RowsT w base sv S.rows
section
variable {w w' : World} {base : Nat} {v : Value} {rows : List TRow} {S : TSt}
theorem RowsT.ext (h : RowsT w base v rows) (hx : Ext w w') : RowsT w' base v rows := OwnV.ext h hx
theorem RT.ext (h : RT w base v S) (hx : Ext w w') : RT w' base v S := let ⟨sv, e, h1⟩ := h; ⟨sv, e, h1.ext hx⟩
theorem RowsT.at_ (h : RowsT w base v rows) {k : Nat} (hk : k < rows.length) : ∃ g cap r, v = .slice (some ⟨g, 0, none⟩) rows.length cap ∧ Hid (rows[k]? = some r) ∧ w.cell? ⟨g, k * 3, none⟩ = some (.int .i64 r.lit) ∧ w.cell? ⟨g, k * 3 + 1, none⟩ = some (.int .i64 r.level) ∧ w.cell? ⟨g, k * 3 + 2, none⟩ = some (.int .i64 r.reason) := by
  obtain ⟨g, cap, rfl, _, _, _, hc⟩ := OwnV.full h (by omega)
  have hr : rows[k]? = some rows[k] := List.getElem?_eq_getElem hk
  exact ⟨g, cap, _, rfl, Lib.hid hr, hc _ _ (flat_get encT_len hr (k := 0) (by decide)), hc _ _ (flat_get encT_len hr (k := 1) (by decide)), hc _ _ (flat_get encT_len hr (k := 2) (by decide))⟩
end

set_option maxHeartbeats 1000000 in
theorem rPlaceT_c (w : World) (base : Nat) (sv : Value) (S : TSt) (v : Int) (h : RowsT w base sv S.rows) (hsm : S.rows.length ≤ 1000000000) :
    Calls Try.prog 47 #[.agg #[.int .i64 S.vars, sv, .int .i64 S.depth], .int .i64 v] w fun e w' => e = .returned (.int .i64 (placeV S.rows v)) ∧ Ext w w' := by
  obtain ⟨vars, rows, depth⟩ := S
  dsimp only at h hsm ⊢
  obtain ⟨A, c, rfl, hc⟩ := OwnV.len h
  go_enter Try.func47, Try.ntmps47
  go_wp2
  go_loop [5] (fun i => ∃ k : Nat, k ≤ rows.length ∧ i = .int .i64 k ∧ (rows.take k).findIdx? (isVar v) = none) (fun i => rows.length - (intOf i).toNat)
  case atStart => exact ⟨0, Nat.zero_le _, rfl, rfl⟩
  case round =>
    obtain ⟨k, hk, rfl, hno⟩ := hrel
    have HN := Lib.hid hno
    clear hno
    by_cases hlt : k < rows.length
    · obtain ⟨g, cap, r, e, hr, c1, _, _⟩ := (h.ext ((Ext.refl w).alloc (Obj.cells #[.int .i64 vars, .slice A rows.length c, .int .i64 depth] 30))).at_ hlt
      injection e with e1 e2 e3
      subst e1 e3
      by_cases hv : varV r.lit = v
      · have hvb : (varV r.lit == v) = true := by simpa using hv
        have HV : Hid (isVar v r = true) := hvb
        clear hv
        go_wp2_with (go_at_call 12; refine (rSplit_c _ _).mono ?_; rintro e w' ⟨rfl, rfl⟩)
        go_ret
        exact ⟨ret_int (by rw [placeV, idxP, findIdx_hit HN.out hr.out HV.out]), (Ext.refl _).alloc _⟩
      · have hvb : (varV r.lit == v) = false := by simpa using hv
        have HV : Hid (isVar v r = false) := hvb
        clear hv
        go_wp2_with (go_at_call 12; refine (rSplit_c _ _).mono ?_; rintro e w' ⟨rfl, rfl⟩)
        go_round
        case rel => exact ⟨k + 1, by omega, by go_num, findIdx_snoc_none HN.out hr.out HV.out⟩
        case measure => simp [intOf]; omega
    · go_wp2
      go_ret
      refine ⟨ret_int ?_, (Ext.refl _).alloc _⟩
      have := HN.out
      rw [take_len_of rfl hlt] at this
      rw [placeV, idxP, this]

set_option maxHeartbeats 1000000 in
theorem rMayT_c (w : World) (base : Nat) (sv : Value) (S : TSt) (l : Int) (h : RowsT w base sv S.rows) (hsm : S.rows.length ≤ 1000000000) :
    Calls Try.prog 70 #[.agg #[.int .i64 S.vars, sv, .int .i64 S.depth], .int .i64 l] w fun e w' => e = .returned (.int .i64 (mayV S l)) ∧ Ext w w' := by
  obtain ⟨A, c, e, hc⟩ := OwnV.len h
  subst e
  by_cases hk : checkV l S.vars = 0
  · have hkb : (checkV l S.vars != 0) = false := by simp [hk]
    by_cases hp : 0 ≤ placeV S.rows (varV l)
    all_goals
      have HM : Hid (mayV S l = if 0 ≤ placeV S.rows (varV l) then 21 else 0) := by unfold Hid mayV; rw [if_neg (by simp [hk])]
      have HK := Lib.hid hk
      clear hk
      go_enter Try.func70, Try.ntmps70
      go_wp2_with (first
        | (go_at_call 49; refine (rCheck_c _ _ _).mono ?_; rintro e w' ⟨rfl, rfl⟩)
        | (go_at_call 12; refine (rSplit_c _ _).mono ?_; rintro e w' ⟨rfl, rfl⟩)
        | (go_at_call 47; refine (rPlaceT_c _ base _ S _ (h.ext ((Ext.refl _).alloc _)) hsm).mono ?_; rintro e w2 ⟨rfl, hx2⟩))
      go_ret
      exact ⟨ret_int (by rw [HM.out]; first | rw [if_pos (by omega)] | rw [if_neg (by omega)]), by (repeat (first | with_reducible exact Ext.refl _ | with_reducible apply Ext.alloc | with_reducible apply Ext.drew | with_reducible apply Ext.drewN | (apply Ext.trans'; assumption)))⟩
  · have hkb : (checkV l S.vars != 0) = true := by simpa using hk
    have HM : Hid (mayV S l = 10) := by unfold Hid mayV; rw [if_pos hk]
    clear hk
    go_enter Try.func70, Try.ntmps70
    go_wp2_with (first
      | (go_at_call 49; refine (rCheck_c _ _ _).mono ?_; rintro e w' ⟨rfl, rfl⟩))
    go_ret
    exact ⟨ret_int HM.out.symm, by (repeat (first | with_reducible exact Ext.refl _ | with_reducible apply Ext.alloc | with_reducible apply Ext.drew | with_reducible apply Ext.drewN | (apply Ext.trans'; assumption)))⟩

theorem find_take_none {rows : List TRow} {p : TRow → Bool} {k : Nat} {r : TRow} (h : (rows.take k).find? p = none) (hr : rows[k]? = some r) (hp : p r = false) : (rows.take (k + 1)).find? p = none := by
  rw [take_succ_of hr, List.find?_append, h]
  simp [hp]
theorem find_hit {rows : List TRow} {p : TRow → Bool} {k : Nat} {r : TRow} (h : (rows.take k).find? p = none) (hr : rows[k]? = some r) (hp : p r = true) : rows.find? p = some r := by
  obtain ⟨hk, e⟩ := List.getElem?_eq_some_iff.1 hr
  have h1 : rows = rows.take k ++ rows.drop k := (List.take_append_drop k rows).symm
  rw [h1, List.find?_append, h, List.drop_eq_getElem_cons hk, e]
  simp [hp]

set_option maxHeartbeats 2000000 in
theorem rValueT_c (w : World) (base : Nat) (sv : Value) (S : TSt) (l : Int) (h : RowsT w base sv S.rows) (hsm : S.rows.length ≤ 1000000000) (hl1 : -9223372036854775807 ≤ l) (hl2 : l ≤ 9223372036854775807) :
    Calls Try.prog 48 #[.agg #[.int .i64 S.vars, sv, .int .i64 S.depth], .int .i64 l] w fun e w' => e = .returned (.int .i64 (valT S.rows l)) ∧ Ext w w' := by
  obtain ⟨vars, rows, depth⟩ := S
  dsimp only at h hsm ⊢
  obtain ⟨A, c, rfl, hc⟩ := OwnV.len h
  go_enter Try.func48, Try.ntmps48
  go_wp2
  go_loop [5] (fun i => ∃ k : Nat, k ≤ rows.length ∧ i = .int .i64 k ∧ (rows.take k).find? (valP l) = none) (fun i => rows.length - (intOf i).toNat)
  case atStart => exact ⟨0, Nat.zero_le _, rfl, rfl⟩
  case round =>
    obtain ⟨k, hk, rfl, hno⟩ := hrel
    have HN := Lib.hid hno
    clear hno
    by_cases hlt : k < rows.length
    · obtain ⟨g, cap, r, e, hr, c1, _, _⟩ := (h.ext ((Ext.refl w).alloc (Obj.cells #[.int .i64 vars, .slice A rows.length c, .int .i64 depth] 30))).at_ hlt
      injection e with e1 e2 e3
      subst e1 e3
      by_cases hv : r.lit = l
      · have hvb : (r.lit == l) = true := by simpa using hv
        have HV : Hid (valT rows l = 1) := by
          unfold Hid valT
          rw [find_hit HN.out hr.out (by simp [valP, hv])]
          simp [hv]
        clear hv
        go_wp2
        go_ret
        exact ⟨ret_int HV.out.symm, (Ext.refl _).alloc _⟩
      · have hvb : (r.lit == l) = false := by simpa using hv
        by_cases hv2 : r.lit = -l
        · have hvb2 : (r.lit == -l) = true := by simpa using hv2
          have HV : Hid (valT rows l = -1) := by
            unfold Hid valT
            rw [find_hit HN.out hr.out (by simp [valP, hv2])]
            dsimp only
            rw [if_neg hv]
          clear hv hv2
          go_wp2
          go_ret
          exact ⟨ret_int HV.out.symm, (Ext.refl _).alloc _⟩
        · have hvb2 : (r.lit == -l) = false := by simpa using hv2
          have HV : Hid (valP l r = false) := by unfold Hid valP; rw [hvb, hvb2]; rfl
          clear hv hv2
          go_wp2
          go_round
          case rel => exact ⟨k + 1, by omega, by go_num, find_take_none HN.out hr.out HV.out⟩
          case measure => simp [intOf]; omega
    · go_wp2
      go_ret
      refine ⟨ret_int ?_, (Ext.refl _).alloc _⟩
      have := HN.out
      rw [take_len_of rfl hlt] at this
      rw [valT, this]

theorem place_row {rows : List TRow} {v : Int} : (placeV rows v < 0 ∧ rowOf rows v = none) ∨ ∃ (k : Nat) (r : TRow), placeV rows v = k ∧ rows[k]? = some r ∧ rowOf rows v = some r := by
  unfold placeV idxP rowOf
  cases e : rows.findIdx? (isVar v) with
  | none =>
    left
    rw [List.findIdx?_eq_none_iff] at e
    exact ⟨by show (-1 : Int) < 0; omega, by rw [List.find?_eq_none]; intro x hx; simp [e x hx]⟩
  | some k =>
    right
    rw [List.findIdx?_eq_some_iff_getElem] at e
    obtain ⟨hk, hp, hno⟩ := e
    refine ⟨k, rows[k], rfl, List.getElem?_eq_getElem hk, find_hit (k := k) ?_ (List.getElem?_eq_getElem hk) hp⟩
    rw [List.find?_eq_none]
    intro x hx
    obtain ⟨i, hi⟩ := List.mem_iff_getElem?.1 hx
    rw [List.getElem?_take] at hi
    split at hi
    · rename_i hlt
      obtain ⟨hi1, hi2⟩ := List.getElem?_eq_some_iff.1 hi
      have := hno i hlt
      rw [← hi2]
      simpa using this
    · cases hi

set_option maxHeartbeats 1000000 in
theorem rOfT_c (w : World) (base : Nat) (sv : Value) (S : TSt) (v : Int) (h : RowsT w base sv S.rows) (hsm : S.rows.length ≤ 1000000000) :
    Calls Try.prog 45 #[.agg #[.int .i64 S.vars, sv, .int .i64 S.depth], .int .i64 v] w fun e w' => e = .returned (.tuple #[.int .i64 (levelV S.rows v), .int .i64 (reasonV S.rows v)]) ∧ Ext w w' := by
  obtain ⟨A, c, e, hc⟩ := OwnV.len h
  subst e
  rcases place_row (rows := S.rows) (v := v) with ⟨hp, hr⟩ | ⟨k, r, hp, hr, hro⟩
  · have HL : Hid (levelV S.rows v = -1 ∧ reasonV S.rows v = -1) := by unfold Hid levelV reasonV; rw [hr]; exact ⟨rfl, rfl⟩
    clear hr
    go_enter Try.func45, Try.ntmps45
    go_wp2_with fail
    refine (rPlaceT_c _ base _ S v (h.ext ((Ext.refl _).alloc _)) hsm).mono ?_
    rintro e w2 ⟨rfl, hx2⟩
    go_wp2
    go_ret2
    exact ⟨ret_ii HL.out.1.symm HL.out.2.symm, by (repeat (first | with_reducible exact Ext.refl _ | with_reducible apply Ext.alloc | with_reducible apply Ext.drew | with_reducible apply Ext.drewN | (apply Ext.trans'; assumption)))⟩
  · have HL : Hid (levelV S.rows v = r.level ∧ reasonV S.rows v = r.reason) := by unfold Hid levelV reasonV; rw [hro]; exact ⟨rfl, rfl⟩
    have HP := Lib.hid hp
    have hk : k < S.rows.length := (List.getElem?_eq_some_iff.1 hr).1
    have HR := Lib.hid hr
    clear hr hro hp
    go_enter Try.func45, Try.ntmps45
    go_wp2_with fail
    refine (rPlaceT_c _ base _ S v (h.ext ((Ext.refl _).alloc _)) hsm).mono ?_
    rintro e w2 ⟨rfl, hx2⟩
    rw [HP.out]
    have hx3 : Ext w w2 := by (repeat (first | with_reducible exact Ext.refl _ | with_reducible apply Ext.alloc | with_reducible apply Ext.drew | with_reducible apply Ext.drewN | (apply Ext.trans'; assumption)))
    obtain ⟨g, cap, r', e, hr', c1, c2, c3⟩ := (h.ext hx3).at_ hk
    injection e with e1 e2 e3
    subst e1 e3
    obtain rfl : r = r' := Option.some.inj (HR.out.symm.trans hr'.out)
    have hb := hx2.cell ((Blk.new w 30 #[.int .i64 S.vars, .slice (some ⟨g, 0, none⟩) S.rows.length c, .int .i64 S.depth]).cell 1)
    have k0 : (0 : Int) ≤ (k : Int) := by omega
    have k1 : (k : Int) < (S.rows.length : Int) := by omega
    go_wp2
    go_quiet (fail)
    go_wp2
    go_ret2
    exact ⟨ret_ii HL.out.1.symm HL.out.2.symm, hx3.drewN _⟩

set_option maxHeartbeats 1000000 in
theorem rLitsT_c (w : World) (base : Nat) (sv : Value) (S : TSt) (h : RowsT w base sv S.rows) (hsm : S.rows.length ≤ 1000000000) (hbd : ∀ r ∈ S.rows, -9223372036854775808 ≤ r.lit ∧ r.lit ≤ 9223372036854775807) :
    Calls Try.prog 46 #[.agg #[.int .i64 S.vars, sv, .int .i64 S.depth]] w (RetOwn (litsT S.rows) w) := by
  obtain ⟨vars, rows, depth⟩ := S
  dsimp only at h hsm hbd ⊢
  obtain ⟨A, c, rfl, hc⟩ := OwnV.len h
  have HBD := Lib.hid hbd
  clear hbd
  have HX0 := Lib.hid ((Ext.refl w).alloc (Obj.cells #[.int .i64 vars, .slice A rows.length c, .int .i64 depth] 30))
  have HB0 := Lib.hid (Blk.new w 30 #[.int .i64 vars, .slice A rows.length c, .int .i64 depth])
  go_enter Try.func46, Try.ntmps46
  go_wp2
  go_loopw [3, 4] (fun v i wr => ∃ k : Nat, k ≤ rows.length ∧ i = .int .i64 k ∧ OwnI wr (w.heap.size + 1) v (litsT (rows.take k)) ∧ Ext (w.alloc (Obj.cells #[.int .i64 vars, .slice A rows.length c, .int .i64 depth] 30)) wr) (fun _ i _ => rows.length - (intOf i).toNat)
  case atStart => exact ⟨0, Nat.zero_le _, rfl, OwnI.nil _ _, Ext.refl _⟩
  case round =>
    obtain ⟨k, hk, rfl, ho, hx⟩ := hrel
    have hsz : w.heap.size + 1 ≤ wr.heap.size := by have := hx.size_le; simpa using this
    have cb := (HB0.out.ext hx).cell 1
    have HO := Lib.hid ho
    have HX := Lib.hid hx
    clear ho hx
    by_cases hlt : k < rows.length
    · obtain ⟨g, cap, r, e, hr, c1, _, _⟩ := (h.ext (HX0.out.trans HX.out)).at_ hlt
      injection e with e1 e2 e3
      subst e1 e3
      have hrb := HBD.out r (List.mem_of_getElem? hr.out)
      have HT : Hid (litsT (rows.take (k + 1)) = litsT (rows.take k) ++ [r.lit]) := by unfold Hid litsT; rw [take_succ_of hr.out, List.map_append]; rfl
      have hll : (litsT (rows.take k)).length ≤ k := by unfold litsT; rw [List.length_map]; exact List.length_take_le _ _
      have HLL : Hid ((litsT (rows.take k)).length + 1 ≤ 10000000000000) := by unfold Hid; omega
      clear hll
      go_wp2_with (at_builtin; refine append1 _ rfl (.tmp 12) (.tmp 19) rfl (w.heap.size + 1) _ _ rfl (HO.out.alloc _) _ _ _ rfl (cell_one _ _ _) hrb HLL.out (by simp; omega) ?_; intro v4 w4 ho4 hg4 hloc; have HO4 := Lib.hid ho4; have HG4 := Lib.hid hg4; clear ho4 hg4 hloc)
      go_roundw
      case rel => exact ⟨k + 1, by omega, by go_num, by rw [HT.out]; exact HO4.out, (HX.out.alloc _).grown HG4.out (fun j hj => by have := (HO.out.blk j hj).1; simp; omega)⟩
      case measure => simp [intOf]; omega
    · have ho := HO.out
      rw [take_len_of rfl hlt] at ho
      go_wp2
      go_ret
      exact ⟨_, rfl, OwnI.less ho (by omega), HX0.out.trans HX.out⟩
end Go.Proofs.Ytbkimfefbdfkbaa
