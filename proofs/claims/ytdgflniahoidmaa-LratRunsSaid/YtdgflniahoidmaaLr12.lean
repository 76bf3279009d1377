/- Layer 11 (lrat): rows. -/
import Derived.Test.YtdgflniahoidmaaLr11
set_option maxRecDepth 100000
namespace Go.Proofs.Ytdgflniahoidmaa
open Go.RowKit

/-- The rows hold what a checker may hold. -/
theorem rowsR_wide {S : CSt} (hi : Inv11 S) (ids : List Int) : ∀ d ∈ rowsR S.rows ids, d.length ≤ 1000 ∧ ∀ x ∈ d, -100000 ≤ x ∧ x ≤ 100000 := by
  intro d hd
  obtain ⟨i, _, rfl⟩ := List.mem_map.1 hd
  cases h : getR S.rows i with
  | none => exact ⟨by simp, fun x hx => by simp at hx⟩
  | some c => exact hi.wide _ (getR_mem h)
theorem rowsR_len (R : List (Int × List Int)) (ids : List Int) : (rowsR R ids).length = ids.length := by unfold rowsR; rw [List.length_map]
theorem rowsR_snoc (R : List (Int × List Int)) (ids : List Int) (i : Int) : rowsR R (ids ++ [i]) = rowsR R ids ++ [(getR R i).getD []] := by unfold rowsR; rw [List.map_append]; rfl

/-- What a look-up brings, then and later. -/
theorem MapC.later {w : World} {b : Nat} {n : Int} {R : List (Int × List Int)} (h : MapC w b n R) (hw : ∀ p ∈ R, p.2.length ≤ 1000 ∧ ∀ x ∈ p.2, -100000 ≤ x ∧ x ≤ 100000) (x : Int) (hx : -9223372036854775808 ≤ x ∧ x ≤ 9223372036854775807) :
    ∃ A m c, (∀ W, Ext w W → (Instr.lookup 53 (.map (some b)) (.int .i64 x) false).run Try.prog W = .ok (.slice A m c) W) ∧ IntSl w A m ((getR R x).getD []) ∧ m ≤ 1000 ∧ m ≤ c := by
  obtain ⟨k, f, _, h2, h3⟩ := h
  have hl : ∀ W, Ext w W → _ := fun W hW => (h2.ext hW).lookI x hx false
  have e := h3 x
  cases hf : f x <;> cases hR : getR R x <;> rw [hf, hR] at e
  · rw [hf] at hl
    exact ⟨none, 0, 0, hl, IntSl.nil w, by decide, by decide⟩
  · exact e.elim
  · exact e.elim
  · rename_i u xs
    have h45 : xs.length ≤ 1000 ∧ ∀ y ∈ xs, -100000 ≤ y ∧ y ≤ 100000 := hw _ (getR_mem hR)
    obtain ⟨h4, h5⟩ := h45
    obtain ⟨A, m, c, rfl, hs, hmc⟩ := OwnI.slc e (by omega) (fun y hy => by have := h5 y hy; omega)
    rw [hf] at hl
    exact ⟨A, m, c, hl, hs, by have e1 : xs.length = m := hs.1; omega, hmc⟩
theorem clauseL_c (w W : World) (p b : Nat) (S : CSt) (h : CMem w p b S) (hi : Inv11 S) (i : Int) (hx : -9223372036854775808 ≤ i ∧ i ≤ 9223372036854775807) (hW : Ext w W) :
    Calls Try.prog 53 #[.pointer (some ⟨p, 0, none⟩), .int .i64 i] W fun e w' => (∃ A m c, e = .returned (.slice A m c) ∧ IntSl w A m ((getR S.rows i).getD []) ∧ m ≤ 1000 ∧ m ≤ c) ∧ W = w' := by
  have c0 := (h.blk.ext hW).cell 0
  obtain ⟨A, m, c, hl, hs, hm, hmc⟩ := h.map.later hi.wide i hx
  have hl := hl W hW
  go_enter Try.func53, Try.ntmps53
  go_wp2
  go_ret
  exact ⟨⟨A, m, c, rfl, hs, hm, hmc⟩, rfl⟩

def RetRows11 (w0 : World) (R : List (Int × List Int)) (ids : List Int) (w : World) (e : Ending) (w' : World) : Prop := ∃ v, e = .returned v ∧ OwnR w0 w' w.heap.size v (rowsR R ids) ∧ Ext w w'

set_option maxHeartbeats 4000000 in
theorem rows11_c (A : Option Addr) (n c : Nat) (ids : List Int) (p b : Nat) (S : CSt) (w0 w : World) (h : IntSl w A n ids) (hm : CMem w0 p b S) (hx0 : Ext w0 w) (hi : Inv11 S) (hsm : n ≤ 100000000) :
    Calls Try.prog 54 #[.slice A n c, .func (.func 53) #[.pointer (some ⟨p, 0, none⟩)] #[]] w (RetRows11 w0 S.rows ids w) := by
  have HLN := Lib.hid h.1
  have HS := Lib.hid h
  have HM := Lib.hid hm
  have HI := Lib.hid hi
  have HX0 := Lib.hid hx0
  clear h hm hi hx0
  go_enter Try.func54, Try.ntmps54
  go_wp2_with fail
  go_loopw [5, 10] (fun v i wr => ∃ k : Nat, k ≤ n ∧ i = .int .i64 k ∧ OwnR w0 wr w.heap.size v (rowsR S.rows (ids.take k)) ∧ Ext w wr) (fun _ i _ => n - (intOf i).toNat)
  case atStart => exact ⟨0, Nat.zero_le _, rfl, OwnR.nil _ _ _, Ext.refl w⟩
  case round =>
    obtain ⟨k, hk, rfl, ho, hx⟩ := hrel
    have HO := Lib.hid ho
    have HX := Lib.hid hx
    have HSZ := Lib.hid (Ext.size_le hx)
    clear ho
    by_cases hlt : k < n
    · obtain ⟨ad, x, rfl, hxk, hcx, hx1, hx2⟩ := (HS.out.ext HX.out).at_ hlt
      have HT := Lib.hid (take_succ_of hxk.out)
      have HLK : Hid ((rowsR S.rows (ids.take k)).length = k) := by unfold Hid; rw [rowsR_len, List.length_take, HLN.out]; omega
      clear hx hxk
      go_wp2_with fail
      refine (clauseL_c w0 _ p b S HM.out HI.out x (by omega) (HX0.out.trans HX.out)).mono ?_
      rintro e w1 ⟨⟨A1, n1, c1, rfl, hs1, hn1, hc1⟩, rfl⟩
      have HS1 := Lib.hid hs1
      clear hs1
      go_wp2_with (at_builtin; refine appendR1 w0 _ rfl _ _ rfl w.heap.size _ (rowsR S.rows (ids.take k)) rfl (HO.out.alloc _) _ _ A1 n1 c1 ((getR S.rows x).getD []) rfl (cell_one _ _ _) HS1.out (by have := HLK.out; omega) (by have := HSZ.out; simp; omega) ?_; intro v' w2 ho2 hg2 _; have HO2 := Lib.hid ho2; have HX2 : Hid (Ext w w2) := Ext.grown (HX.out.alloc _) hg2 (fun j hj => (HO.out.blk j hj).1); clear ho2 hg2)
      go_roundw
      case rel => exact ⟨k + 1, by omega, by go_num, by rw [HT.out, rowsR_snoc]; exact HO2.out, HX2.out⟩
      case measure => simp [intOf]; omega
    · have HO2 : Hid (OwnR w0 wr w.heap.size u5 (rowsR S.rows ids)) := by
        have := HO.out
        rw [List.take_of_length_le (by rw [HLN.out]; omega)] at this
        exact this
      clear hx
      go_wp2_with fail
      go_ret
      exact ⟨_, rfl, HO2.out, HX.out⟩
end Go.Proofs.Ytdgflniahoidmaa
