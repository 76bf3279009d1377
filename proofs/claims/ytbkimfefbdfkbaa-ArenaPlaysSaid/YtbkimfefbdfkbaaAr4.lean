/- Layer 12 (arena): Lits. -/
import Derived.Test.YtbkimfefbdfkbaaAr3
import Derived.Laws.CopyOwn
set_option maxRecDepth 100000
namespace Go.Proofs.Ytbkimfefbdfkbaa
open Go.RowKit

theorem own_row {w : World} {g : Nat} {xs : List Int} (hg : w.heap[g]? = some (.cells (xs.map (Value.int .i64)).toArray 3 (0, 0))) (hm : xs.length ≤ 1000000) : OwnI w g (.slice (some ⟨g, 0, none⟩) xs.length xs.length) xs :=
  ⟨by simp, Or.inr ⟨g, xs.length, _, rfl, Nat.le_refl _, hg, Nat.le_refl _, by unfold maxLen; omega, by simp, by simpa using List.take_of_length_le (by simp)⟩⟩
theorem splice_all {L cs : List Value} (h : L.length = cs.length) : splice L 0 cs = cs := by
  unfold splice
  rw [List.take_zero, List.nil_append, List.drop_of_length_le (by omega), List.append_nil]

set_option maxHeartbeats 2000000 in
theorem arLits_c (w : World) (base p mb : Nat) (lv : Value) (K : Nat) (S : ASt) (x : Int) (h : ArMem w base p mb lv K S) (hx : -9223372036854775808 ≤ x ∧ x ≤ 9223372036854775807) :
    Calls Try.prog 31 #[.pointer (some ⟨p, 0, none⟩), .int .i64 x] w (RetOwn (litsA S.rows x) w) := by
  have c0 := h.blk.cell 0
  have H := Lib.hid h
  cases hr : S.rows.find? (atP x) with
  | none =>
    have HZ := Lib.hid ((head_pos h.inv x).2 hr)
    have HR : Hid (litsA S.rows x = []) := by unfold Hid litsA; rw [hr]
    clear hr h
    go_enter Try.func31, Try.ntmps31
    go_wp2_with (go_at_call 63; (with_reducible refine (arIs_c _ base p mb lv K S x H.out hx).mono ?_); rintro e w' ⟨rfl, rfl⟩; rw [HZ.out])
    go_ret
    exact ⟨_, rfl, by rw [HR.out]; exact OwnI.nil _ _, Ext.refl _⟩
  | some r =>
    have hz : headA S.rows x = r.id := by unfold headA; rw [hr]
    have HR : Hid (litsA S.rows x = r.lits) := by unfold Hid litsA; rw [hr]
    obtain ⟨g, cap, i, j, _, rfl, hc, rfl, hle, _, d1, _, d3, _⟩ := h.at_ hr
    have hok := h.inv.ok r (List.mem_of_find?_eq_some hr)
    obtain ⟨⟨p1, p2⟩, hl1, _⟩ := hok
    have hln := h.len
    have hd : decide (0 < r.id) = true := decide_eq_true (by omega)
    have HZ := Lib.hid hz
    have b0 : (0 : Int) ≤ (j : Int) := by omega
    have b1 : (j : Int) + 1 < ((flatA S.rows).length : Int) := by omega
    have hw : IntKind.i64.wrap ((j : Int) + 1) = (j : Int) + 1 := IntWalk.i64_in _ (by omega)
    obtain ⟨i0, hi, hz0, hz1, hz2⟩ := info_parts infoI
    have hmk := fun W => run_make_rowN (P := Try.prog) 33 3 i0 _ Try.underlying33 hi hz0 .i64 .i64 r.lits.length r.lits.length (Nat.le_refl _) (by rw [hz2]; omega) (by omega) W
    rw [hz1, Nat.mul_one] at hmk
    have hxW := (Ext.refl w).alloc (Obj.cells (madeCells #[Value.int .i64 0] r.lits.length) 3)
    have HXW := Lib.hid hxW
    have c0' : (w.alloc (Obj.cells (madeCells #[Value.int .i64 0] r.lits.length) 3)).cell? ⟨p, 0, none⟩ = some (.slice (some ⟨g, 0, none⟩) (flatA S.rows).length cap) := hxW.cell c0
    have d1' := hxW.cell d1
    have HSRC : Hid (∀ (k : Nat) (u : Value), (r.lits.map (Value.int .i64))[k]? = some u → (w.alloc (Obj.cells (madeCells #[Value.int .i64 0] r.lits.length) 3)).cell? ((⟨g, j + 3, none⟩ : Addr).add k) = some u) := by
      intro k u hk
      rw [List.getElem?_map] at hk
      obtain ⟨y, hy, rfl⟩ := Option.map_eq_some_iff.1 hk
      have e2 : (⟨g, j + 3, none⟩ : Addr).add k = ⟨g, j + 3 + k, none⟩ := by unfold Addr.add; split <;> simp_all
      rw [e2]
      exact hxW.cell (d3 k y hy)
    have HBW : Hid ((w.alloc (Obj.cells (madeCells #[Value.int .i64 0] r.lits.length) 3)).heap[w.heap.size]? = some (.cells (madeCells #[Value.int .i64 0] r.lits.length).toList.toArray 3 (0, 0))) := by
      unfold Hid
      rw [Array.toArray_toList]
      exact Blk.new w 3 (madeCells #[Value.int .i64 0] r.lits.length)
    clear hr hz h hi hz0 hz1 hz2 hxW d3
    generalize (flatA S.rows).length = n at c0 c0' b1 H hle hc hln
    go_enter Try.func31, Try.ntmps31
    go_wp2_with (go_at_call 63; (with_reducible refine (arIs_c _ base p mb _ K S _ H.out hx).mono ?_); rintro e w' ⟨rfl, rfl⟩; rw [HZ.out])
    refine (arView_c _ p g n cap j r.lits.length c0' d1' hle hc hln).mono ?_
    rintro e w' ⟨rfl, rfl⟩
    obtain ⟨o, ho⟩ : ∃ o, (if r.lits.length = 0 then 0 else j + 3) = o := ⟨_, rfl⟩
    rw [ho]
    have HO3 := Lib.hid ho
    clear ho
    go_wp2_with (refine wpList_copy_splice (o := ⟨some 23, _, _, _, _, _⟩) rfl (.tmp 19) (.tmp 22) 33 33 rfl 3 Try.underlying33 (by kernel_rfl) (some ⟨w.heap.size, 0, none⟩) (some ⟨g, o, none⟩) r.lits.length r.lits.length r.lits.length r.lits.length rfl rfl w.heap.size 0 (madeCells #[Value.int .i64 0] r.lits.length).toList 3 HBW.out (r.lits.map (Value.int .i64)) (by simp) (fun hp => ⟨rfl, ⟨g, j + 3, none⟩, by rw [← HO3.out, if_neg (by rw [List.length_map] at hp; omega)], fun k u hk => HSRC.out k u hk⟩) (by simp [madeCells]) (by intro u hu; obtain ⟨y, _, rfl⟩ := List.mem_map.1 hu; rfl) w.heap.size w HXW.out (Nat.le_refl _) ?_; intro w3 hg3 hb3; have HG3 := Lib.hid hg3; have HB3 := Lib.hid hb3; clear hg3 hb3)
    go_ret
    refine ⟨_, rfl, ?_, HB3.out⟩
    rw [HR.out]
    have hg3 := HG3.out.out
    rw [splice_all (by simp [madeCells])] at hg3
    exact own_row hg3 (by omega)
end Go.Proofs.Ytbkimfefbdfkbaa
