/- CnfHolds answers true. -/
import Derived.Test.YtdhohoabcokdjaaCnfAwake
import Derived.Test.YtdhohoabcokdjaaFew
import Derived.Deep.RegionHeld3
set_option maxRecDepth 100000
namespace Go.Proofs.Ytdhohoabcokdjaa
open Go.RowKit

theorem few_most {L : List (List Int)} (h : fewV L = true) : L.length ≤ 200 ∧ mostN L ≤ 10000 ∧ ∀ c ∈ L, c.length ≤ 50 := by
  unfold fewV at h
  simp only [Bool.and_eq_true, decide_eq_true_eq, List.all_eq_true] at h
  have := fewV_most (L := L) h.2
  exact ⟨h.1, by omega, h.2⟩
theorem status_all {l : List Int} {L : List (List Int)} (h : ∀ c ∈ L, clauseV l c = 1) : statusV l L = 1 := by
  unfold statusV
  have key : ∀ (L : List (List Int)), (∀ c ∈ L, clauseV l c = 1) → L.foldl (fun a c => min a (clauseV l c)) 1 = 1 := by
    intro L
    induction L with
    | nil => intro _; rfl
    | cons c L ih =>
      intro h
      rw [List.foldl_cons, h c (List.mem_cons_self ..)]
      exact ih fun d hd => h d (List.mem_cons_of_mem _ hd)
  exact key L h
theorem status_one {l : List Int} {L : List (List Int)} {c : List Int} (hc : c ∈ L) (h : clauseV l c = -1) : statusV l L = -1 := by
  unfold statusV
  have low : ∀ (L : List (List Int)) (a : Int), a = -1 → L.foldl (fun a c => min a (clauseV l c)) a = -1 := by
    intro L
    induction L with
    | nil => intro a h; exact h
    | cons c L ih =>
      intro a ha
      rw [List.foldl_cons]
      have := clauseV_bd l c
      exact ih _ (by omega)
  have key : ∀ (L : List (List Int)) (a : Int), -1 ≤ a → c ∈ L → L.foldl (fun a c => min a (clauseV l c)) a = -1 := by
    intro L
    induction L with
    | nil => intro a _ hm; cases hm
    | cons d L ih =>
      intro a ha hm
      rw [List.foldl_cons]
      have hb := clauseV_bd l d
      rcases List.mem_cons.1 hm with e | e
      · subst e; exact low L _ (by omega)
      · exact ih _ (by omega) e
  exact key L 1 (by decide) hc
theorem check_badL {c : List Int} {n : Nat} (h : cCheckV c n = 0) : badL c n = false := by
  obtain ⟨_, _, h3⟩ := cCheckV_ok h
  rw [badL, List.any_eq_false]
  intro x hx
  simp [h3 x hx]
theorem status_full {L : List (List Int)} {m : List Bool} {n : Nat} (hm : m.length = n) (hk : (fCheckV n L).2 = 0) : statusV (litsV m) L = if firstV L m < 0 then 1 else -1 := by
  obtain ⟨hb, hall⟩ := fCheckV_ok hk
  have hn : n ≤ 100000 := by omega
  by_cases hf : firstV L m < 0
  · rw [if_pos hf]
    refine status_all fun c hc => ?_
    rw [clause_holds hm hn (check_badL (hall c hc).1), firstV_neg.1 hf c hc]; rfl
  · rw [if_neg hf]
    have : ∃ c ∈ L, holdsV c m = false := by
      by_cases h : ∃ c ∈ L, holdsV c m = false
      · exact h
      · exfalso
        refine hf (firstV_neg.2 fun c hc => ?_)
        cases e : holdsV c m with
        | true => rfl
        | false => exact absurd ⟨c, hc, e⟩ h
    obtain ⟨c, hc, e⟩ := this
    refine status_one hc ?_
    rw [clause_holds hm hn (check_badL (hall c hc).1), e]; rfl

theorem litsV_len (m : List Bool) : (litsV m).length ≤ m.length := by
  unfold litsV
  split
  · simp
  · rw [litsT_len]; exact Nat.le_refl _

set_option maxRecDepth 100000 in
set_option maxHeartbeats 4000000 in
theorem lawCnfHolds_c (x : Int) (A : Option Addr) (n c : Nat) (L : List (List Int)) (A' : Option Addr) (n' c' : Nat) (m : List Bool) (w : World) (hf : (-9223372036854775808 ≤ x ∧ x ≤ 9223372036854775807) ∧ RowsSl w A n L ∧ n ≤ c) (h' : BoolSl w A' n' m) :
    Calls Try.prog 10 #[.agg #[.int .i64 x, .slice A n c], .slice A' n' c'] w fun e w' => e = .returned (.bool true) ∧ Ext w w' := by
  obtain ⟨⟨hx1, hx2⟩, h, hnc⟩ := hf
  have hm' := h'.1
  have HM := Lib.hid hm'
  clear hm'
  cases hfew : fewV L with
  | false =>
    have HF := Lib.hid hfew
    clear hfew
    go_enter Try.func10, Try.ntmps10
    go_wp2_with fail
    refine (few04_c _ _ _ _ L _ (h.ext ((Ext.refl _).alloc _))).mono ?_
    rintro e w1 ⟨rfl, hx1⟩
    rw [HF.out]
    go_wp2_with fail
    refine (law04awake_c _).mono ?_
    rintro e w2 ⟨rfl, hx2⟩
    go_wp2_with fail
    go_ret
    exact ⟨rfl, by (repeat (first | with_reducible exact Ext.refl _ | with_reducible apply Ext.alloc | with_reducible apply Ext.drew | with_reducible apply Ext.drewN | (apply Ext.trans'; assumption)))⟩
  | true =>
    have HF := Lib.hid hfew
    clear hfew
    by_cases h300 : 300 < n'
    · go_enter Try.func10, Try.ntmps10
      go_wp2_with fail
      refine (few04_c _ _ _ _ L _ (h.ext ((Ext.refl _).alloc _))).mono ?_
      rintro e w1 ⟨rfl, hx1⟩
      rw [HF.out]
      go_wp2_with fail
      refine (law04awake_c _).mono ?_
      rintro e w2 ⟨rfl, hx2⟩
      go_wp2_with fail
      go_ret
      exact ⟨rfl, by (repeat (first | with_reducible exact Ext.refl _ | with_reducible apply Ext.alloc | with_reducible apply Ext.drew | with_reducible apply Ext.drewN | (apply Ext.trans'; assumption)))⟩
    · by_cases hxn : (n' : Int) = x
      · subst hxn
        have hb0 := Blk.new w 48 #[.int .i64 (n' : Int), .slice A n c]
        have HB0 := Lib.hid hb0
        clear hb0
        go_enter Try.func10, Try.ntmps10
        go_wp2_with fail
        refine (few04_c _ _ _ _ L _ (h.ext ((Ext.refl _).alloc _))).mono ?_
        rintro e w1 ⟨rfl, hx1⟩
        rw [HF.out]
        have hb1 := HB0.out.ext hx1
        have y0 := hb1.cell 0
        have y1 := hb1.cell 1
        have HX1 : Hid (Ext w w1) := ((Ext.refl _).alloc _).trans hx1
        have HB1 := Lib.hid hb1
        clear hx1 hb1
        go_wp2_with fail
        refine (cnfCheck_c _ _ _ _ L _ (h.ext HX1.out)).mono ?_
        rintro e w2 ⟨rfl, hx2⟩
        have hb2 := HB1.out.ext hx2
        have HX2 := Lib.hid (HX1.out.trans hx2)
        have HB2 := Lib.hid hb2
        have z0 : w2.cell? ⟨w.heap.size, 0, none⟩ = some (.int .i64 (n' : Int)) := hb2.cell 0
        have z1 : w2.cell? ⟨w.heap.size, 1, none⟩ = some (.slice A n c) := hb2.cell 1
        clear hx2 hb2 y0 y1
        by_cases hck : (fCheckV (n' : Int) L).2 = 0
        · have hst := status_full HM.out hck
          have HCK := Lib.hid hck
          have HST := Lib.hid hst
          have hll : (litsV m).length ≤ n' := by have := litsV_len m; rw [HM.out] at this; exact this
          have HLL := Lib.hid hll
          rw [HCK.out]
          clear hck hst hll
          go_wp2
          go_region_held3 (fun w' => w'.cell? ⟨w.heap.size, 0, none⟩ = some (.int .i64 (n' : Int)) ∧ w'.cell? ⟨w.heap.size, 1, none⟩ = some (.slice A n c))
            (first | assumption | (go_split_ands; refine ⟨?_, ?_⟩ <;> first | assumption | (go_keep; done)))
            (first
              | (go_at_call 46; (with_reducible refine (from_list_c _ _ _ m _ (h'.ext ?_)).mono ?_); exact HX2.out.trans (Ext.refl w2).drew; rintro e w4 ⟨A4, m4, c4, rfl, hs4, hx4⟩; have hm4 : m4 ≤ 1000000000000 := (by have e1 := hs4.1; have e2 := HLL.out; omega); have hx5 : Ext w2 w4 := (by (repeat (first | with_reducible exact Ext.refl _ | with_reducible apply Ext.alloc | with_reducible apply Ext.drew | with_reducible apply Ext.drewN | (apply Ext.trans'; assumption)))); have hb4 := HB2.out.ext hx5; have u0 := hb4.cell 0; have u1 := hb4.cell 1; have HX4 := Lib.hid (HX2.out.trans hx5); have HB4 := Lib.hid hb4; have HS4 := Lib.hid hs4; clear hs4 hx4 hx5 hb4)
              | (go_at_call 43; (with_reducible refine (cStatus_c _ _ _ _ L _ _ _ (litsV m) _ (h.ext HX4.out) HS4.out hm4).mono ?_); rintro e w5 ⟨rfl, hx5⟩; have hb5 := HB4.out.ext hx5; have v0 := hb5.cell 0; have v1 := hb5.cell 1; have HX5 := Lib.hid (HX4.out.trans hx5); have HB5 := Lib.hid hb5; clear hx5 hb5))
          all_goals
            rw [HST.out]
            have HHF : Hid (holdsF (n' : Int) L m = decide (firstV L m < 0)) := by unfold Hid; rw [holdsF, HM.out, decide_eq_true rfl, Bool.true_and]
            by_cases hfst : firstV L m < 0
            · rw [if_pos hfst]
              have HFS : Hid (decide (firstV L m < 0) = true) := decide_eq_true hfst
              have HFST := Lib.hid hfst
              clear hfst
              go_wp2_with fail
              refine (cHolds_c _ _ _ _ L _ _ _ m _ (h.ext HX5.out) (h'.ext HX5.out)).mono ?_
              rintro e w6 ⟨rfl, hx6⟩
              rw [HHF.out, HFS.out]
              have hb6 := HB5.out.ext hx6
              have t0 := hb6.cell 0
              have t1 := hb6.cell 1
              have HX6 := Lib.hid (HX5.out.trans hx6)
              clear hx6 hb6
              go_wp2_with fail
              refine (cFirst_c _ _ _ _ L _ _ _ m _ (h.ext HX6.out) (h'.ext HX6.out)).mono ?_
              rintro e w7 ⟨rfl, hx7⟩
              have hfst := HFST.out
              have HX7 := Lib.hid (HX6.out.trans hx7)
              clear hx7
              go_wp2_with fail
              refine (law04awake_c _).mono ?_
              rintro e w8 ⟨rfl, hx8⟩
              go_wp2_with fail
              go_ret
              exact ⟨rfl, HX7.out.trans hx8⟩
            · rw [if_neg hfst]
              have HFS : Hid (decide (firstV L m < 0) = false) := decide_eq_false hfst
              have HFST := Lib.hid hfst
              clear hfst
              go_wp2_with fail
              refine (cHolds_c _ _ _ _ L _ _ _ m _ (h.ext HX5.out) (h'.ext HX5.out)).mono ?_
              rintro e w6 ⟨rfl, hx6⟩
              rw [HHF.out, HFS.out]
              have hb6 := HB5.out.ext hx6
              have t0 := hb6.cell 0
              have t1 := hb6.cell 1
              have HX6 := Lib.hid (HX5.out.trans hx6)
              clear hx6 hb6
              go_wp2_with fail
              refine (cFirst_c _ _ _ _ L _ _ _ m _ (h.ext HX6.out) (h'.ext HX6.out)).mono ?_
              rintro e w7 ⟨rfl, hx7⟩
              have hfst := HFST.out
              have HX7 := Lib.hid (HX6.out.trans hx7)
              clear hx7
              go_wp2_with fail
              refine (law04awake_c _).mono ?_
              rintro e w8 ⟨rfl, hx8⟩
              go_wp2_with fail
              go_ret
              exact ⟨ret_bool (by rw [HFS.out]; rfl), HX7.out.trans hx8⟩
        · have hb : ((fCheckV (n' : Int) L).2 != 0) = true := by simpa using hck
          clear hck
          go_wp2_with fail
          refine (law04awake_c _).mono ?_
          rintro e w3 ⟨rfl, hx3⟩
          go_wp2_with fail
          go_ret
          exact ⟨rfl, HX2.out.trans hx3⟩
      · have hb0 := Blk.new w 48 #[.int .i64 x, .slice A n c]
        have HB0 := Lib.hid hb0
        have hbx : ((n' : Int) != x) = true := by simpa using hxn
        clear hb0 hxn
        go_enter Try.func10, Try.ntmps10
        go_wp2_with fail
        refine (few04_c _ _ _ _ L _ (h.ext ((Ext.refl _).alloc _))).mono ?_
        rintro e w1 ⟨rfl, hx1⟩
        rw [HF.out]
        have hb1 := HB0.out.ext hx1
        have y0 := hb1.cell 0
        have HX1 : Hid (Ext w w1) := ((Ext.refl _).alloc _).trans hx1
        clear hx1 hb1
        go_wp2_with fail
        refine (law04awake_c _).mono ?_
        rintro e w2 ⟨rfl, hx2⟩
        go_wp2_with fail
        go_ret
        exact ⟨rfl, HX1.out.trans hx2⟩
end Go.Proofs.Ytdhohoabcokdjaa
