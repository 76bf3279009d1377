/- Layer 13 (trail): what is told of a literal and of a variable. -/
import Derived.Test.YtbkimfefbdfkbaaTrail1
set_option maxRecDepth 100000
namespace Go.Proofs.Ytbkimfefbdfkbaa
open Go.RowKit

theorem find_congr {α : Type} {p q : α → Bool} : ∀ {l : List α}, (∀ x ∈ l, p x = q x) → l.find? p = l.find? q
  | [], _ => rfl
  | x :: l, h => by
    rw [List.find?_cons, List.find?_cons, h x (List.mem_cons_self ..), find_congr (l := l) fun y hy => h y (List.mem_cons_of_mem _ hy)]
theorem valT_eq {rows : List TRow} {vars : Int} (hok : ∀ r ∈ rows, checkV r.lit vars = 0) (l : Int) :
    valT rows l = if checkV l vars ≠ 0 then 0 else if l < 0 then -markF rows (varV l) 0 else markF rows (varV l) 0 := by
  by_cases h : checkV l vars = 0
  · rw [if_neg (by simp [h])]
    have e : rows.find? (valP l) = rowOf rows (varV l) := find_congr fun r hr => by
      have h1 := check_var (hok r hr)
      have h2 := check_var h
      unfold valP isVar
      rw [Bool.eq_iff_iff]
      simp only [Bool.or_eq_true, beq_iff_eq]
      omega
    unfold valT
    rw [e]
    cases e2 : rowOf rows (varV l) with
    | none => simp [markF, e2]
    | some r =>
      have hr : r ∈ rows := List.mem_of_find?_eq_some e2
      have hv : varV r.lit = varV l := by have := List.find?_some e2; simpa [isVar] using this
      have h1 := check_var (hok r hr)
      have h2 := check_var h
      simp only [markF, e2]
      by_cases e3 : r.lit = l
      · rw [if_pos e3, e3]
        by_cases e4 : l < 0
        · rw [if_pos e4, if_pos e4]; rfl
        · rw [if_neg e4, if_neg e4]
      · rw [if_neg e3]
        by_cases e4 : l < 0
        · rw [if_pos e4, if_neg (by omega)]
        · rw [if_neg e4, if_pos (by omega)]
  · rw [if_pos h]
    have e : rows.find? (valP l) = none := by
      rw [List.find?_eq_none]
      intro r hr hp
      have h1 := check_var (hok r hr)
      simp only [valP, Bool.or_eq_true, beq_iff_eq] at hp
      have h3 := hok r hr
      revert h h1 h3
      unfold checkV varV
      (repeat (first | omega | split))
    unfold valT
    rw [e]

set_option maxHeartbeats 1000000 in
theorem trValue_c (w : World) (base p gm : Nat) (lv bv : Value) (vars : Nat) (rows : List TRow) (bs : List Int) (l : Int) (h : TrMem w base p gm lv bv vars rows bs) (hl1 : -9223372036854775808 ≤ l) (hl2 : l ≤ 9223372036854775807) :
    Calls Try.prog 22 #[.pointer (some ⟨p, 0, none⟩), .int .i64 l] w fun e w' => e = .returned (.int .i64 (valT rows l)) ∧ Ext w w' := by
  have hm := valT_eq (vars := vars) h.ok l
  have HM := Lib.hid hm
  clear hm
  have c0 := h.blk.cell 0
  have c3 := h.blk.cell 3
  have hvs := h.vs
  by_cases hc : checkV l vars = 0
  · obtain ⟨g1, g2, g3, g4, g5, g6⟩ := check_var hc
    obtain ⟨j, hj⟩ := Int.eq_ofNat_of_zero_le (show 0 ≤ varV l by omega)
    have hj2 : j ≤ vars := by omega
    have hm0 : w.cell? ⟨gm, j * 4, none⟩ = some (.int .i64 (markF rows j 0)) := h.mark j 0 hj2 (by decide)
    have hcb : (checkV l vars != 0) = false := by simp [hc]
    have b0 : (0 : Int) ≤ (j : Int) := by omega
    have b1 : (j : Int) < (vars : Int) + 1 := by omega
    have q : ∀ m, Calls Try.prog 56 #[.int .i64 l] (w.drewN m) fun e w' => e = .returned (.int .i64 (j : Int)) ∧ w.drewN m = w' := fun m => (var_c l _).mono fun e w' ⟨he, hw⟩ => ⟨by rw [he, hj], hw⟩
    have hres : valT rows l = if l < 0 then -markF rows j 0 else markF rows j 0 := by rw [HM.out, if_neg (by simp [hc]), hj]
    have hz : -1 ≤ markF rows j 0 ∧ markF rows j 0 ≤ 1 := by
      cases e : rowOf rows j with
      | none => simp [markF, e]
      | some x => simp only [markF, e]; split <;> omega
    generalize markF rows j 0 = z at hm0 hres hz
    obtain ⟨hz1, hz2⟩ := hz
    have HR := Lib.hid hres
    clear hj hc g1 g2 g3 g6 hres
    by_cases hneg : l < 0
    all_goals
      go_enter Try.func22, Try.ntmps22
      go_wp2_with (first
        | (go_at_call 51; refine (trIs_c _ _ c3).mono ?_; rintro e w' ⟨rfl, rfl⟩)
        | (go_at_call 55; refine (litCheck_c _ _ _).mono ?_; rintro e w' ⟨rfl, rfl⟩))
      go_quiet ((go_at_call 56; with_reducible exact quiet_left (q _)))
      go_wp2
      go_ret
      exact ⟨ret_int (by rw [HR.out]; first | rw [if_pos (by omega)] | rw [if_neg (by omega)]), (Ext.refl _).drewN _⟩
  · have hcb : (checkV l vars != 0) = true := by simpa using hc
    have HR : Hid (valT rows l = 0) := by unfold Hid; rw [HM.out, if_pos hc]
    clear hc
    go_enter Try.func22, Try.ntmps22
    go_wp2_with (first
      | (go_at_call 51; refine (trIs_c _ _ c3).mono ?_; rintro e w' ⟨rfl, rfl⟩)
      | (go_at_call 55; refine (litCheck_c _ _ _).mono ?_; rintro e w' ⟨rfl, rfl⟩))
    go_ret
    exact ⟨ret_int HR.out.symm, Ext.refl _⟩

/-- What 'of' hands back. -/
def RetOf (rows : List TRow) (v : Int) (w : World) (e : Ending) (w' : World) : Prop :=
  ∃ (a : Int) (t : Bool), e = .returned (.tuple #[.agg #[.int .i64 a, .int .i64 (levelV rows v), .int .i64 (reasonV rows v), .int .i64 (placeV rows v)], .bool t]) ∧ Ext w w'
theorem of_none {rows : List TRow} {v : Int} (h : rowOf rows v = none) : levelV rows v = -1 ∧ reasonV rows v = -1 ∧ placeV rows v = -1 := by
  refine ⟨by rw [levelV, h], by rw [reasonV, h], ?_⟩
  have := place_none.2 (rowOf_none.1 h)
  have h1 : -1 ≤ placeV rows v := by unfold placeV idxP; split <;> omega
  omega
theorem of_out {rows : List TRow} {vars v : Int} (hok : ∀ r ∈ rows, checkV r.lit vars = 0) (hv : v < 1 ∨ vars < v) : rowOf rows v = none := by
  rw [rowOf_none]
  intro r hr
  have := check_var (hok r hr)
  omega
theorem of_some {rows : List TRow} {v : Int} {r : TRow} (h : rowOf rows v = some r) : markF rows v 1 = levelV rows v ∧ markF rows v 2 = reasonV rows v ∧ markF rows v 3 = placeV rows v ∧ markF rows v 0 ≠ 0 := by
  simp only [markF, levelV, reasonV, h]
  refine ⟨trivial, trivial, trivial, ?_⟩
  split <;> omega

set_option maxHeartbeats 1000000 in
theorem trOf_c (w : World) (base p gm : Nat) (lv bv : Value) (vars : Nat) (rows : List TRow) (bs : List Int) (v : Int) (h : TrMem w base p gm lv bv vars rows bs) :
    Calls Try.prog 53 #[.pointer (some ⟨p, 0, none⟩), .int .i64 v] w (RetOf rows v w) := by
  have c0 := h.blk.cell 0
  have hvs := h.vs
  have d0 := (h.ext ((Ext.refl w).alloc (Obj.cells #[.int .i64 0, .int .i64 0, .int .i64 0, .int .i64 0] 90))).blk.cell 0
  have d3 := (h.ext ((Ext.refl w).alloc (Obj.cells #[.int .i64 0, .int .i64 0, .int .i64 0, .int .i64 0] 90))).blk.cell 3
  by_cases hv : v < 1 ∨ (vars : Int) < v
  · obtain ⟨e1, e2, e3⟩ := of_none (of_out h.ok hv)
    have HE := Lib.hid (And.intro e1 (And.intro e2 e3))
    clear e1 e2 e3
    rcases hv with hv | hv
    all_goals
      go_enter Try.func53, Try.ntmps53
      go_wp2_with fail
      refine (trIs_c _ _ d3).mono ?_
      rintro e w' ⟨rfl, rfl⟩
      go_wp2
      refine bodyPost_ret (v := .tuple #[.agg #[.int .i64 0, .int .i64 (-1), .int .i64 (-1), .int .i64 (-1)], .bool false]) (by simp [results, Try.results53, go_sem]) rfl ⟨0, false, by rw [HE.out.1, HE.out.2.1, HE.out.2.2], ?_⟩
      (repeat (first | with_reducible exact Ext.refl _ | with_reducible apply Ext.alloc | with_reducible apply Ext.drew | with_reducible apply Ext.drewN | (apply Ext.trans'; assumption)))
  · obtain ⟨j, hj⟩ := Int.eq_ofNat_of_zero_le (show 0 ≤ v by omega)
    subst hj
    have hj2 : j ≤ vars := by omega
    have b0 : (1 : Int) ≤ (j : Int) := by omega
    have b1 : (j : Int) < (vars : Int) + 1 := by omega
    have b2 : ¬ ((vars : Int) + 1 ≤ (j : Int)) := by omega
    have m0 : (w.alloc (Obj.cells #[.int .i64 0, .int .i64 0, .int .i64 0, .int .i64 0] 90)).cell? ⟨gm, j * 4, none⟩ = some (.int .i64 (markF rows j 0)) := (h.ext ((Ext.refl w).alloc _)).mark j 0 hj2 (by decide)
    have m1 := (h.ext ((Ext.refl w).alloc (Obj.cells #[.int .i64 0, .int .i64 0, .int .i64 0, .int .i64 0] 90))).mark j 1 hj2 (by decide)
    have m2 := (h.ext ((Ext.refl w).alloc (Obj.cells #[.int .i64 0, .int .i64 0, .int .i64 0, .int .i64 0] 90))).mark j 2 hj2 (by decide)
    have m3 := (h.ext ((Ext.refl w).alloc (Obj.cells #[.int .i64 0, .int .i64 0, .int .i64 0, .int .i64 0] 90))).mark j 3 hj2 (by decide)
    clear hv
    cases hr : rowOf rows j with
    | none =>
      obtain ⟨e1, e2, e3⟩ := of_none hr
      have HE := Lib.hid (And.intro e1 (And.intro e2 e3))
      have hz : markF rows j 0 = 0 := markF_none (rowOf_none.1 hr) 0
      rw [hz] at m0
      clear e1 e2 e3 hr hz
      go_enter Try.func53, Try.ntmps53
      go_wp2_with fail
      refine (trIs_c _ _ d3).mono ?_
      rintro e w' ⟨rfl, rfl⟩
      go_wp2
      refine bodyPost_ret (v := .tuple #[.agg #[.int .i64 0, .int .i64 (-1), .int .i64 (-1), .int .i64 (-1)], .bool false]) (by simp [results, Try.results53, go_sem]) rfl ⟨0, false, by rw [HE.out.1, HE.out.2.1, HE.out.2.2], ?_⟩
      (repeat (first | with_reducible exact Ext.refl _ | with_reducible apply Ext.alloc | with_reducible apply Ext.drew | with_reducible apply Ext.drewN | (apply Ext.trans'; assumption)))
    | some r =>
      obtain ⟨e1, e2, e3, e4⟩ := of_some hr
      have HE := Lib.hid (And.intro e1 (And.intro e2 e3))
      have hzb : (markF rows j 0 == 0) = false := by simpa using e4
      clear e1 e2 e3 hr e4
      generalize markF rows j 0 = z0 at m0 hzb
      generalize hz1 : markF rows j 1 = z1 at m1 HE
      generalize hz2 : markF rows j 2 = z2 at m2 HE
      generalize hz3 : markF rows j 3 = z3 at m3 HE
      clear hz1 hz2 hz3
      go_enter Try.func53, Try.ntmps53
      go_wp2_with fail
      refine (trIs_c _ _ d3).mono ?_
      rintro e w' ⟨rfl, rfl⟩
      go_wp2
      refine bodyPost_ret (v := .tuple #[.agg #[.int .i64 z0, .int .i64 z1, .int .i64 z2, .int .i64 z3], .bool true]) (by simp [results, Try.results53, go_sem]) rfl ⟨z0, true, by rw [HE.out.1, HE.out.2.1, HE.out.2.2], ?_⟩
      (repeat (first | with_reducible exact Ext.refl _ | with_reducible apply Ext.alloc | with_reducible apply Ext.drew | with_reducible apply Ext.drewN | (apply Ext.trans'; assumption)))

theorem trLevel_c (w : World) (base p gm : Nat) (lv bv : Value) (vars : Nat) (rows : List TRow) (bs : List Int) (v : Int) (h : TrMem w base p gm lv bv vars rows bs) :
    Calls Try.prog 17 #[.pointer (some ⟨p, 0, none⟩), .int .i64 v] w fun e w' => e = .returned (.int .i64 (levelV rows v)) ∧ Ext w w' := by
  go_enter Try.func17, Try.ntmps17
  go_wp2_with fail
  refine (trOf_c _ base p gm lv bv vars rows bs v h).mono ?_
  rintro e w1 ⟨a, t, rfl, hx⟩
  go_wp2
  go_ret
  exact ⟨rfl, by (repeat (first | with_reducible exact Ext.refl _ | with_reducible apply Ext.alloc | with_reducible apply Ext.drew | with_reducible apply Ext.drewN | (apply Ext.trans'; assumption)))⟩

theorem trReason_c (w : World) (base p gm : Nat) (lv bv : Value) (vars : Nat) (rows : List TRow) (bs : List Int) (v : Int) (h : TrMem w base p gm lv bv vars rows bs) :
    Calls Try.prog 18 #[.pointer (some ⟨p, 0, none⟩), .int .i64 v] w fun e w' => e = .returned (.int .i64 (reasonV rows v)) ∧ Ext w w' := by
  go_enter Try.func18, Try.ntmps18
  go_wp2_with fail
  refine (trOf_c _ base p gm lv bv vars rows bs v h).mono ?_
  rintro e w1 ⟨a, t, rfl, hx⟩
  go_wp2
  go_ret
  exact ⟨rfl, by (repeat (first | with_reducible exact Ext.refl _ | with_reducible apply Ext.alloc | with_reducible apply Ext.drew | with_reducible apply Ext.drewN | (apply Ext.trans'; assumption)))⟩

theorem trPlace_c (w : World) (base p gm : Nat) (lv bv : Value) (vars : Nat) (rows : List TRow) (bs : List Int) (v : Int) (h : TrMem w base p gm lv bv vars rows bs) :
    Calls Try.prog 21 #[.pointer (some ⟨p, 0, none⟩), .int .i64 v] w fun e w' => e = .returned (.int .i64 (placeV rows v)) ∧ Ext w w' := by
  go_enter Try.func21, Try.ntmps21
  go_wp2_with fail
  refine (trOf_c _ base p gm lv bv vars rows bs v h).mono ?_
  rintro e w1 ⟨a, t, rfl, hx⟩
  go_wp2
  go_ret
  exact ⟨rfl, by (repeat (first | with_reducible exact Ext.refl _ | with_reducible apply Ext.alloc | with_reducible apply Ext.drew | with_reducible apply Ext.drewN | (apply Ext.trans'; assumption)))⟩

theorem trDepth_c (w : World) (base p gm : Nat) (lv bv : Value) (vars : Nat) (rows : List TRow) (bs : List Int) (h : TrMem w base p gm lv bv vars rows bs) :
    Calls Try.prog 19 #[.pointer (some ⟨p, 0, none⟩)] w fun e w' => e = .returned (.int .i64 (bs.length : Nat)) ∧ Ext w w' := by
  obtain ⟨A, n, c, rfl, hs, hc, hn⟩ := h.bsl
  have c2 := h.blk.cell 2
  have c3 := h.blk.cell 3
  rw [← hn]
  clear hn
  go_enter Try.func19, Try.ntmps19
  go_wp2_with (go_at_call 51; refine (trIs_c _ _ c3).mono ?_; rintro e w' ⟨rfl, rfl⟩)
  go_ret
  exact ⟨rfl, Ext.refl _⟩

theorem trOpen_c (w : World) (base p gm : Nat) (lv bv : Value) (vars : Nat) (rows : List TRow) (bs : List Int) (h : TrMem w base p gm lv bv vars rows bs) :
    Calls Try.prog 41 #[.pointer (some ⟨p, 0, none⟩)] w fun e w' => e = .returned (.int .i64 ((vars : Int) - (rows.length : Nat))) ∧ Ext w w' := by
  obtain ⟨A, n, c, rfl, hs, hc, hn⟩ := h.lsl
  have c0 := h.blk.cell 0
  have c1 := h.blk.cell 1
  have c3 := h.blk.cell 3
  have hsm := h.sm
  have hvs := h.vs
  rw [← hn] at hsm ⊢
  clear hn
  have hw : IntKind.i64.wrap ((vars : Int) - (n : Int)) = (vars : Int) - n := IntWalk.i64_in _ (by omega)
  have hw2 : IntKind.i64.wrap ((vars : Int) + 1 - 1) = (vars : Int) := by rw [IntWalk.i64_in _ (by omega)]; omega
  go_enter Try.func41, Try.ntmps41
  go_wp2_with (go_at_call 51; refine (trIs_c _ _ c3).mono ?_; rintro e w' ⟨rfl, rfl⟩)
  go_quiet (fail)
  go_wp2
  go_ret
  exact ⟨by simp, (Ext.refl _).drewN _⟩

theorem trLits_c (w : World) (base p gm : Nat) (lv bv : Value) (vars : Nat) (rows : List TRow) (bs : List Int) (h : TrMem w base p gm lv bv vars rows bs) :
    Calls Try.prog 16 #[.pointer (some ⟨p, 0, none⟩)] w (RetOwn (litsT rows) w) := by
  obtain ⟨A, n, c, rfl, hs, hc, hn⟩ := h.lsl
  have c1 := h.blk.cell 1
  have c3 := h.blk.cell 3
  have hsm := h.sm
  rw [← hn] at hsm
  clear hn
  go_enter Try.func16, Try.ntmps16
  go_wp2_with (go_at_call 51; refine (trIs_c _ _ c3).mono ?_; rintro e w' ⟨rfl, rfl⟩)
  refine (clone_c _ _ _ (litsT rows) _ hs (by omega)).mono ?_
  rintro e w1 ⟨v, rfl, ho, hx⟩
  go_wp2
  go_ret
  exact ⟨_, rfl, ho, hx⟩
end Go.Proofs.Ytbkimfefbdfkbaa
