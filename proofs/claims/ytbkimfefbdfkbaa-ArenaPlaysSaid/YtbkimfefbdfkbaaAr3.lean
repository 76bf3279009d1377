/- Layer 12 (arena): All, Lits. -/
import Derived.Test.YtbkimfefbdfkbaaAr2
import Derived.Laws.CopyOwn
set_option maxRecDepth 100000
namespace Go.Proofs.Ytbkimfefbdfkbaa
open Go.RowKit

theorem ArMem.row_at {w : World} {base p mb K : Nat} {lv : Value} {S : ASt} (h : ArMem w base p mb lv K S) {i : Nat} {r : ARow} (hr : S.rows[i]? = some r) :
    ∃ g cap, lv = .slice (some ⟨g, 0, none⟩) (flatA S.rows).length cap ∧ (flatA S.rows).length ≤ cap ∧ (flatA (S.rows.take i)).length + 3 + r.lits.length ≤ (flatA S.rows).length ∧
      w.cell? ⟨g, (flatA (S.rows.take i)).length, none⟩ = some (.int .i64 r.id) ∧ w.cell? ⟨g, (flatA (S.rows.take i)).length + 1, none⟩ = some (.int .i64 (r.lits.length : Nat)) ∧ w.cell? ⟨g, (flatA (S.rows.take i)).length + 2, none⟩ = some (.int .i64 (sideA r)) := by
  have hle := arow_le hr
  rw [encR_len] at hle
  obtain ⟨g, cap, e, hc, hcell, _⟩ := h.row.full (by omega)
  have hat : ∀ (k : Nat) (y : Int), (encR r)[k]? = some y → w.cell? ⟨g, (flatA (S.rows.take i)).length + k, none⟩ = some (.int .i64 y) := fun k y hk => hcell _ _ (by rw [arow_at hr (List.getElem?_eq_some_iff.1 hk).1]; exact hk)
  exact ⟨g, cap, e, hc, by omega, hat 0 _ rfl, hat 1 _ rfl, hat 2 _ rfl⟩
theorem allA_snoc {rows : List ARow} {i : Nat} {r : ARow} (h : rows[i]? = some r) : allA (rows.take (i + 1)) = allA (rows.take i) ++ if r.live then [r.pos] else [] := by
  unfold allA
  rw [take_succ_of h, List.filter_append, List.map_append]
  cases hl : r.live <;> simp [hl]
theorem take_flat {rows : List ARow} {i : Nat} {r : ARow} (h : rows[i]? = some r) : (flatA (rows.take (i + 1))).length = (flatA (rows.take i)).length + 3 + r.lits.length := by
  rw [take_succ_of h, flatA_snoc, List.length_append, encR_len]; omega
theorem allA_len (rows : List ARow) : (allA rows).length ≤ rows.length := by unfold allA; rw [List.length_map]; exact List.length_filter_le _ _
theorem side_two (r : ARow) : sideA r = 2 ↔ r.live = false := by unfold sideA; cases r.live <;> simp <;> split <;> omega
theorem allA_bd {S : ASt} (h : AInv S) (hs : (flatA S.rows).length ≤ 1003000000) : ∀ x ∈ allA S.rows, -9223372036854775808 ≤ x ∧ x ≤ 9223372036854775807 := by
  intro x hx
  obtain ⟨r, hr, rfl⟩ := List.mem_map.1 hx
  obtain ⟨i, hi⟩ := List.mem_iff_getElem?.1 (List.mem_filter.1 hr).1
  have h1 := h.pos i r hi
  have h2 := arow_le hi
  omega

set_option maxHeartbeats 2000000 in
theorem arAll_c (w : World) (base p mb : Nat) (lv : Value) (K : Nat) (S : ASt) (h : ArMem w base p mb lv K S) :
    Calls Try.prog 35 #[.pointer (some ⟨p, 0, none⟩)] w (RetOwn (allA S.rows) w) := by
  have c1 := h.blk.cell 1
  have hln := h.len
  have hsm : S.rows.length ≤ 1000000 := Nat.le_trans h.sm h.sk
  obtain ⟨A, c, elv, _⟩ := h.row.form
  have H := Lib.hid h
  clear h
  go_enter Try.func35, Try.ntmps35
  go_wp2_with (go_at_call 66; refine (arMade_c _ _ _ c1).mono ?_; rintro e w' ⟨rfl, rfl⟩)
  go_loopw [3, 4] (fun v a wr => ∃ i : Nat, i ≤ S.rows.length ∧ a = .int .i64 ((flatA (S.rows.take i)).length : Nat) ∧ OwnI wr w.heap.size v (allA (S.rows.take i)) ∧ Ext w wr) (fun _ a _ => (flatA S.rows).length - (intOf a).toNat)
  case atStart => exact ⟨0, Nat.zero_le _, rfl, OwnI.nil _ _, Ext.refl _⟩
  case round =>
    obtain ⟨i, hi, rfl, ho, hx⟩ := hrel
    have HO := Lib.hid ho
    have HX := Lib.hid hx
    have hm := H.out.ext hx
    have c0 := hm.blk.cell 0
    have HM := Lib.hid hm
    have hsz := hx.size_le
    clear ho hx hm
    by_cases hlt : i < S.rows.length
    · obtain ⟨r, hr⟩ : ∃ r, S.rows[i]? = some r := ⟨S.rows[i], List.getElem?_eq_getElem hlt⟩
      obtain ⟨g, cap, rfl, hc, hle, _, d1, d2⟩ := H.out.row_at hr
      have HS := Lib.hid (allA_snoc hr)
      have HTF := Lib.hid (take_flat hr)
      have hp := H.out.inv.pos i r hr
      have hal := allA_len (S.rows.take i)
      have htl := List.length_take_le i S.rows
      generalize (flatA (S.rows.take i)).length = j at hle d1 d2 hp HTF ⊢
      have b0 : (0 : Int) ≤ (j : Int) := by omega
      have b1 : (j : Int) + 1 < ((flatA S.rows).length : Int) := by omega
      have b2 : (j : Int) + 2 < ((flatA S.rows).length : Int) := by omega
      have b3 : (j : Int) < ((flatA S.rows).length : Int) := by omega
      have hw1 : IntKind.i64.wrap ((j : Int) + 1) = (j : Int) + 1 := IntWalk.i64_in _ (by omega)
      have hw2 : IntKind.i64.wrap ((j : Int) + 2) = (j : Int) + 2 := IntWalk.i64_in _ (by omega)
      have hw3 : IntKind.i64.wrap (3 + (r.lits.length : Int)) = 3 + (r.lits.length : Int) := IntWalk.i64_in _ (by omega)
      have hw4 : IntKind.i64.wrap ((j : Int) + (3 + (r.lits.length : Int))) = (j : Int) + (3 + (r.lits.length : Int)) := IntWalk.i64_in _ (by omega)
      have D1 := Lib.hid d1
      have e2 := HX.out.cell d2
      have e1 := HX.out.cell d1
      rw [hp] at HS
      clear hp d1 d2
      cases hl : r.live with
      | true =>
        have hs2 : (sideA r != 2) = true := by rw [bne_iff_ne]; intro e; rw [side_two, hl] at e; cases e
        rw [hl, if_pos rfl] at HS
        clear hl hr
        generalize sideA r = sd at e2 hs2
        go_wp2_with (at_builtin; refine append1 _ rfl (.tmp 35) (.tmp 37) rfl w.heap.size _ _ rfl (HO.out.alloc _) _ _ _ rfl (cell_one _ _ _) (by omega) (by omega) (by simp; omega) ?_; intro v3 w3 ho3 hg3 _; have hx3 := Ext.grown (HX.out.alloc _) hg3 (fun q hq => (HO.out.blk q hq).1); have k0 := (H.out.ext hx3).blk.cell 0; have k1 := hx3.cell D1.out; have HO3 := Lib.hid ho3; have HX3 := Lib.hid hx3; clear ho3 hg3 hx3)
        go_roundw
        case rel => exact ⟨i + 1, by omega, by rw [HTF.out]; go_num, by rw [HS.out]; exact HO3.out, HX3.out⟩
        case measure => simp [intOf]; omega
      | false =>
        have hs2 : (sideA r != 2) = false := by rw [bne_eq_false_iff_eq, side_two]; exact hl
        rw [hl, if_neg (by simp), List.append_nil] at HS
        clear hl hr
        generalize sideA r = sd at e2 hs2
        go_wp2_with fail
        go_roundw
        case rel => exact ⟨i + 1, by omega, by rw [HTF.out]; go_num, by rw [HS.out]; exact HO.out, HX.out⟩
        case measure => simp [intOf]; omega
    · have ho := HO.out
      have e : S.rows.take i = S.rows := List.take_of_length_le (by omega)
      rw [e] at ho ⊢
      have HO2 := Lib.hid ho
      clear ho e
      subst elv
      go_wp2_with fail
      go_ret
      exact ⟨_, rfl, HO2.out, HX.out⟩
end Go.Proofs.Ytbkimfefbdfkbaa
