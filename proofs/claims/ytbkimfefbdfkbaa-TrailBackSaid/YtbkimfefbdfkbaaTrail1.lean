/- Layer 13 (trail): how a trail lies in memory; what only reads it. -/
import Derived.Test.YtbkimfefbdfkbaaGen
import Derived.Test.YtbkimfefbdfkbaaTrailP
import Derived.Test.YtbkimfefbdfkbaaApp
set_option maxRecDepth 100000
namespace Go.Proofs.Ytbkimfefbdfkbaa
open Go.RowKit

def MarksOk (cs : Array Value) (vars : Nat) (rows : List TRow) : Prop := cs.size = (vars + 1) * 4 ∧ ∀ v k : Nat, v ≤ vars → k < 4 → cs[v * 4 + k]? = some (.int .i64 (markF rows v k))

structure TrMem (w : World) (base p gm : Nat) (lv bv : Value) (vars : Nat) (rows : List TRow) (bs : List Int) : Prop where
  blk : Blk w p 77 #[.slice (some ⟨gm, 0, none⟩) (vars + 1) (vars + 1), lv, bv, .bool true]
  mks : ∃ cs, Blk w gm 90 cs ∧ MarksOk cs vars rows
  lits : OwnI w base lv (litsT rows)
  beg : OwnI w base bv bs
  ap : Apart lv bv
  bp : base ≤ p
  bg : base ≤ gm
  ok : ∀ r ∈ rows, checkV r.lit vars = 0
  sm : rows.length ≤ 1000000000
  smb : bs.length ≤ 1000000000
  bb : ∀ x ∈ bs, 0 ≤ x ∧ x ≤ 1000000000
  vs : vars ≤ 100000

theorem litsT_len (rows : List TRow) : (litsT rows).length = rows.length := by simp [litsT]
theorem litsT_bd {rows : List TRow} {vars : Int} (h : ∀ r ∈ rows, checkV r.lit vars = 0) : ∀ x ∈ litsT rows, -9223372036854775808 ≤ x ∧ x ≤ 9223372036854775807 := by
  intro x hx
  obtain ⟨r, hr, rfl⟩ := List.mem_map.1 hx
  have := check_var (h r hr)
  omega

section
variable {w w' : World} {base p gm : Nat} {lv bv : Value} {vars : Nat} {rows : List TRow} {bs : List Int}
theorem TrMem.ext (h : TrMem w base p gm lv bv vars rows bs) (hx : Ext w w') : TrMem w' base p gm lv bv vars rows bs :=
  ⟨h.blk.ext hx, let ⟨cs, a, b⟩ := h.mks; ⟨cs, a.ext hx, b⟩, h.lits.ext hx, h.beg.ext hx, h.ap, h.bp, h.bg, h.ok, h.sm, h.smb, h.bb, h.vs⟩
theorem TrMem.lsl (h : TrMem w base p gm lv bv vars rows bs) : ∃ A n c, lv = .slice A n c ∧ IntSl w A n (litsT rows) ∧ n ≤ c ∧ n = rows.length := by
  obtain ⟨A, n, c, e, hs, hc⟩ := h.lits.slc (by rw [litsT_len]; have := h.sm; omega) (litsT_bd h.ok)
  exact ⟨A, n, c, e, hs, hc, by rw [← litsT_len]; exact hs.1.symm⟩
theorem TrMem.bsl (h : TrMem w base p gm lv bv vars rows bs) : ∃ A n c, bv = .slice A n c ∧ IntSl w A n bs ∧ n ≤ c ∧ n = bs.length := by
  obtain ⟨A, n, c, e, hs, hc⟩ := h.beg.slc (by have := h.smb; omega) (fun x hx => by have := h.bb x hx; omega)
  exact ⟨A, n, c, e, hs, hc, hs.1.symm⟩
theorem TrMem.mark (h : TrMem w base p gm lv bv vars rows bs) (v k : Nat) (hv : v ≤ vars) (hk : k < 4) : w.cell? ⟨gm, v * 4 + k, none⟩ = some (.int .i64 (markF rows v k)) := by
  obtain ⟨cs, a, b⟩ := h.mks
  rw [a.cell]
  exact b.2 v k hv hk
end

theorem trIs_c (p : Nat) (w : World) (h : w.cell? ⟨p, 3, none⟩ = some (.bool true)) :
    Calls Try.prog 51 #[.pointer (some ⟨p, 0, none⟩)] w fun e w' => e = .returned (.bool true) ∧ w = w' := by
  go_enter Try.func51, Try.ntmps51
  go_wp2
  go_ret
  exact ⟨rfl, rfl⟩

theorem trIsNil_c (w : World) :
    Calls Try.prog 51 #[.pointer none] w fun e w' => e = .returned (.bool false) ∧ w = w' := by
  go_enter Try.func51, Try.ntmps51
  go_wp2
  go_ret
  exact ⟨rfl, rfl⟩

theorem mark0 {rows : List TRow} {v : Int} : markF rows v 0 = 0 ↔ ¬ 0 ≤ placeV rows v := by
  rw [place_none]
  constructor
  · intro h r hr hv
    cases e : rowOf rows v with
    | none => exact rowOf_none.1 e r hr hv
    | some x =>
      simp only [markF, e] at h
      split at h <;> cases h
  · intro h; exact markF_none h 0
theorem may_split (rows : List TRow) (vars d l : Int) :
    mayV ⟨vars, rows, d⟩ l = if checkV l vars ≠ 0 then 10 else if markF rows (varV l) 0 ≠ 0 then 21 else 0 := by
  unfold mayV
  dsimp only
  have := mark0 (rows := rows) (v := varV l)
  by_cases h1 : checkV l vars ≠ 0
  · rw [if_pos h1, if_pos h1]
  · rw [if_neg h1, if_neg h1]
    by_cases h2 : markF rows (varV l) 0 = 0
    · rw [if_neg (this.1 h2), if_neg (by omega)]
    · rw [if_pos (by have := mt this.2 h2; omega), if_pos h2]
theorem ok_ne {rows : List TRow} {vars : Int} (h : ∀ r ∈ rows, checkV r.lit vars = 0) : ∀ r ∈ rows, r.lit ≠ 0 := fun r hr => (check_var (h r hr)).2.2.1

set_option maxHeartbeats 1000000 in
theorem trMay_c (w : World) (base p gm : Nat) (lv bv : Value) (vars : Nat) (rows : List TRow) (bs : List Int) (d l : Int) (h : TrMem w base p gm lv bv vars rows bs) :
    Calls Try.prog 68 #[.pointer (some ⟨p, 0, none⟩), .int .i64 l] w fun e w' => e = .returned (.int .i64 (mayV ⟨vars, rows, d⟩ l)) ∧ Ext w w' := by
  have hm := may_split rows vars d l
  have HM := Lib.hid hm
  clear hm
  have c0 := h.blk.cell 0
  have c3 := h.blk.cell 3
  have hvs := h.vs
  by_cases hc : checkV l vars = 0
  · obtain ⟨g1, g2, g3, g4, g5, g6⟩ := check_var hc
    obtain ⟨j, hj⟩ := Int.eq_ofNat_of_zero_le (show 0 ≤ varV l by omega)
    have hj2 : j ≤ vars := by omega
    have hm0 : w.cell? ⟨gm, j * 4, none⟩ = some (.int .i64 (markF rows j 0)) := h.mark j 0 hj2 (by decide)
    have hcb : (checkV l vars != 0) = false := by simp [hc]
    have b0 : (0 : Int) ≤ (j : Int) := by omega
    have b1 : (j : Int) < (vars : Int) + 1 := by omega
    have q : ∀ m, Calls Try.prog 56 #[.int .i64 l] (w.drewN m) fun e w' => e = .returned (.int .i64 (j : Int)) ∧ w.drewN m = w' := fun m => (var_c l _).mono fun e w' ⟨he, hw⟩ => ⟨by rw [he, hj], hw⟩
    have hres : mayV ⟨vars, rows, d⟩ l = if markF rows j 0 ≠ 0 then 21 else 0 := by rw [HM.out, if_neg (by simp [hc]), hj]
    generalize markF rows j 0 = z at hm0 hres
    have HR := Lib.hid hres
    have HC := Lib.hid hc
    clear hj hc g1 g2 g3 g4 g5 g6 hres
    by_cases hz : z = 0
    · subst hz
      go_enter Try.func68, Try.ntmps68
      go_wp2_with (first
        | (go_at_call 51; refine (trIs_c _ _ c3).mono ?_; rintro e w' ⟨rfl, rfl⟩)
        | (go_at_call 55; refine (litCheck_c _ _ _).mono ?_; rintro e w' ⟨rfl, rfl⟩))
      go_quiet ((go_at_call 56; with_reducible exact quiet_left (q _)))
      go_wp2
      go_ret
      exact ⟨ret_int (by rw [HR.out]; rfl), (Ext.refl _).drewN _⟩
    · have hzb : (z != 0) = true := by simpa using hz
      have HZ := Lib.hid hz
      clear hz
      go_enter Try.func68, Try.ntmps68
      go_wp2_with (first
        | (go_at_call 51; refine (trIs_c _ _ c3).mono ?_; rintro e w' ⟨rfl, rfl⟩)
        | (go_at_call 55; refine (litCheck_c _ _ _).mono ?_; rintro e w' ⟨rfl, rfl⟩))
      go_quiet ((go_at_call 56; with_reducible exact quiet_left (q _)))
      go_wp2
      go_ret
      exact ⟨ret_int (by rw [HR.out, if_pos HZ.out]), (Ext.refl _).drewN _⟩
  · have hcb : (checkV l vars != 0) = true := by simpa using hc
    have HR : Hid (mayV ⟨vars, rows, d⟩ l = 10) := by unfold Hid; rw [HM.out, if_pos hc]
    clear hc
    go_enter Try.func68, Try.ntmps68
    go_wp2_with (first
      | (go_at_call 51; refine (trIs_c _ _ c3).mono ?_; rintro e w' ⟨rfl, rfl⟩)
      | (go_at_call 55; refine (litCheck_c _ _ _).mono ?_; rintro e w' ⟨rfl, rfl⟩))
    go_ret
    exact ⟨ret_int HR.out.symm, Ext.refl _⟩
end Go.Proofs.Ytbkimfefbdfkbaa
