/- Layer 12 (arena): Learnt, view. -/
import Derived.Test.YtbkimfefbdfkbaaAr1
set_option maxRecDepth 100000
namespace Go.Proofs.Ytbkimfefbdfkbaa
open Go.RowKit

theorem arLearnt_c (w : World) (base p mb : Nat) (lv : Value) (K : Nat) (S : ASt) (x : Int) (h : ArMem w base p mb lv K S) (hx : -9223372036854775808 ≤ x ∧ x ≤ 9223372036854775807) :
    Calls Try.prog 32 #[.pointer (some ⟨p, 0, none⟩), .int .i64 x] w fun e w' => e = .returned (.bool (learntA S.rows x)) ∧ w = w' := by
  have c0 := h.blk.cell 0
  have H := Lib.hid h
  cases hr : S.rows.find? (atP x) with
  | none =>
    have HZ := Lib.hid ((head_pos h.inv x).2 hr)
    have HR : Hid (learntA S.rows x = false) := by unfold Hid learntA; rw [hr]
    clear hr h
    go_enter Try.func32, Try.ntmps32
    go_wp2_with (go_at_call 63; (with_reducible refine (arIs_c _ base p mb lv K S x H.out hx).mono ?_); rintro e w' ⟨rfl, rfl⟩; rw [HZ.out])
    go_ret
    exact ⟨ret_bool HR.out.symm, rfl⟩
  | some r =>
    have hz : headA S.rows x = r.id := by unfold headA; rw [hr]
    have HR : Hid (learntA S.rows x = r.learnt) := by unfold Hid learntA; rw [hr]
    obtain ⟨g, cap, i, j, _, rfl, hc, rfl, hle, _, _, d2, _⟩ := h.at_ hr
    have hpos := (h.inv.ok r (List.mem_of_find?_eq_some hr)).1
    obtain ⟨p1, p2⟩ := hpos
    have hln := h.len
    have hd : decide (0 < r.id) = true := decide_eq_true (by omega)
    have HZ := Lib.hid hz
    have b0 : (0 : Int) ≤ (j : Int) := by omega
    have b1 : (j : Int) + 2 < ((flatA S.rows).length : Int) := by omega
    have hw : IntKind.i64.wrap ((j : Int) + 2) = (j : Int) + 2 := IntWalk.i64_in _ (by omega)
    clear hr hz h
    generalize (flatA S.rows).length = n at c0 b1 H hle hc hln
    cases hlr : r.learnt
    all_goals
      rw [hlr] at d2 HR
      clear hlr
      go_enter Try.func32, Try.ntmps32
      go_wp2_with (go_at_call 63; (with_reducible refine (arIs_c _ base p mb _ K S _ H.out hx).mono ?_); rintro e w' ⟨rfl, rfl⟩; rw [HZ.out])
      go_ret
      exact ⟨ret_bool HR.out.symm, rfl⟩

theorem arView_c (w : World) (p g n cap j m : Nat) (c0 : w.cell? ⟨p, 0, none⟩ = some (.slice (some ⟨g, 0, none⟩) n cap)) (d1 : w.cell? ⟨g, j + 1, none⟩ = some (.int .i64 (m : Nat))) (hle : j + 3 + m ≤ n) (hc : n ≤ cap) (hln : n ≤ 1003000000) :
    Calls Try.prog 64 #[.pointer (some ⟨p, 0, none⟩), .int .i64 j] w fun e w' => e = .returned (.slice (some ⟨g, if m = 0 then 0 else j + 3, none⟩) m m) ∧ w = w' := by
  have b0 : (0 : Int) ≤ (j : Int) := by omega
  have b1 : (j : Int) + 1 < (n : Int) := by omega
  have b2 : (j : Int) + 3 + (m : Int) ≤ (n : Int) := by omega
  have hw : IntKind.i64.wrap ((j : Int) + 1) = (j : Int) + 1 := IntWalk.i64_in _ (by omega)
  have hw3 : IntKind.i64.wrap ((j : Int) + 3) = (j : Int) + 3 := IntWalk.i64_in _ (by omega)
  have hw4 : IntKind.i64.wrap ((j : Int) + 3 + (m : Int)) = (j : Int) + 3 + (m : Int) := IntWalk.i64_in _ (by omega)
  rcases Nat.eq_zero_or_pos m with rfl | hm
  · go_enter Try.func64, Try.ntmps64
    go_wp2
    go_ret
    exact ⟨rfl, rfl⟩
  · have hm0 : ¬ m = 0 := by omega
    go_enter Try.func64, Try.ntmps64
    go_wp2
    go_ret
    exact ⟨by simp, rfl⟩
theorem set_getD {l : List Int} {k : Nat} (h : k < l.length) : l[k]? = some (l.getD k 0) := by rw [List.getD_eq_getElem?_getD, List.getElem?_eq_getElem h]; rfl
end Go.Proofs.Ytbkimfefbdfkbaa
