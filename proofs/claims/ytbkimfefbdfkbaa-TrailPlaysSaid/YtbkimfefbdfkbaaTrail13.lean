/- Layer 13 (trail): a trail has what the document's has. -/
import Derived.Test.YtbkimfefbdfkbaaTrail12
import Derived.Deep.RegionHeld3
import Derived.BigRegion
set_option maxRecDepth 100000
namespace Go.Proofs.Ytbkimfefbdfkbaa
open Go.RowKit

set_option maxRecDepth 100000 in
set_option maxHeartbeats 4000000 in
theorem same13_c (w : World) (base p gm : Nat) (lv bv : Value) (S : TSt) (N : Nat) (sv : Value) (v : Int) (h : TrS w base p gm lv bv S N) (hN : N ≤ 1000000000) (hr : RowsT w 0 sv S.rows) (hv1 : 0 ≤ v) (hv2 : v ≤ 9223372036854775807) :
    Calls Try.prog 14 #[.pointer (some ⟨p, 0, none⟩), .agg #[.int .i64 S.vars, sv, .int .i64 S.depth], .int .i64 v] w fun e w' => e = .returned (.bool true) ∧ Ext w w' := by
  obtain ⟨bs, vars, hvv, hm, hb⟩ := h.mem
  have hI := h.inv
  have hn := h.n
  have hbl : (bs.length : Int) = S.depth := hb.1
  have hvr : 0 ≤ S.vars ∧ S.vars ≤ 100000 := ⟨hI.v0, hI.v1⟩
  obtain ⟨hvr1, hvr2⟩ := hvr
  have hbd : ∀ r ∈ S.rows, -9223372036854775808 ≤ r.lit ∧ r.lit ≤ 9223372036854775807 := fun r hr => by have := check_var (hI.lits r hr); omega
  have hsm : S.rows.length ≤ 1000000000 := by omega
  obtain ⟨A, c, e, hc⟩ := OwnV.len hr
  subst e
  have hll : (litsT S.rows).length ≤ 9223372036854775807 := by rw [litsT_len]; omega
  have hlb := litsT_bd hI.lits
  have hse : ∀ xs : List Int, sameV xs xs = true := fun xs => by simp [sameV]
  have HLL := Lib.hid hll
  have HLB := Lib.hid hlb
  have HM := Lib.hid hm
  have HBD := Lib.hid hbd
  have HBL := Lib.hid hbl
  have HVV := Lib.hid hvv
  have HR := Lib.hid hr
  have B0 := Lib.hid (Blk.new w 30 #[.int .i64 S.vars, .slice A S.rows.length c, .int .i64 S.depth])
  clear h hm hI hb hbl hbd hr hll hlb hvv hn
  have hvd : decide (v < -100000) = false := by rw [decide_eq_false_iff_not]; omega
  have hw1 : IntKind.i64.wrap (S.vars - (S.rows.length : Nat)) = S.vars - (S.rows.length : Nat) := IntWalk.i64_in _ (by omega)
  have hw2 : IntKind.i64.wrap (-v) = -v := IntWalk.i64_in _ (by omega)
  have hv3 : -9223372036854775808 ≤ v := by omega
  have hv4 : -9223372036854775807 ≤ v := by omega
  have hv5 : -9223372036854775808 ≤ -v := by omega
  have hv6 : -v ≤ 9223372036854775807 := by omega
  have hv7 : -9223372036854775807 ≤ -v := by omega
  go_enter Try.func14, Try.ntmps14
  go_wp2_with fail
  refine (rOfT_c _ 0 _ S v (HR.out.ext ?_) hsm).mono ?_
  · (repeat (first | with_reducible exact Ext.refl _ | with_reducible apply Ext.alloc | with_reducible apply Ext.drew | with_reducible apply Ext.drewN | (apply Ext.trans'; assumption)))
  rintro e w1 ⟨rfl, hx1⟩
  have hb1 := B0.out.ext (show Ext (w.alloc (Obj.cells #[.int .i64 S.vars, .slice A S.rows.length c, .int .i64 S.depth] 30)) w1 by (repeat (first | with_reducible exact Ext.refl _ | with_reducible apply Ext.alloc | with_reducible apply Ext.drew | with_reducible apply Ext.drewN | (apply Ext.trans'; assumption))))
  have a01 := hb1.cell 0
  have a11 := hb1.cell 1
  have a21 := hb1.cell 2
  clear hb1
  go_wp2_with fail
  simp only [List.append_eq, List.cons_append, List.nil_append]
  go_region_held3 (fun w' => w'.cell? ⟨w.heap.size, 0, none⟩ = some (.int .i64 S.vars) ∧ w'.cell? ⟨w.heap.size, 1, none⟩ = some (.slice A S.rows.length c) ∧ w'.cell? ⟨w.heap.size, 2, none⟩ = some (.int .i64 S.depth))
    (first | assumption | (go_split_ands; refine ⟨?_, ?_, ?_⟩ <;> first | assumption | exact Ext.cell (by assumption) (by assumption) | (go_simp; done)))
    (first
      | (go_at_call 16; (with_reducible refine (trLits_c _ base p gm lv bv vars S.rows bs (HM.out.ext ?_)).mono ?_); (repeat (first | with_reducible exact Ext.refl _ | with_reducible apply Ext.alloc | with_reducible apply Ext.drew | with_reducible apply Ext.drewN | (apply Ext.trans'; assumption))); rintro e w2 ⟨v2, rfl, ho2, hx2⟩; obtain ⟨A2, n2, c2, rfl, hs2⟩ := ho2.sl HLL.out HLB.out; clear ho2)
      | (go_at_call 46; (with_reducible refine (rLitsT_c _ 0 _ S (HR.out.ext ?_) hsm HBD.out).mono ?_); (repeat (first | with_reducible exact Ext.refl _ | with_reducible apply Ext.alloc | with_reducible apply Ext.drew | with_reducible apply Ext.drewN | (apply Ext.trans'; assumption))); rintro e w3 ⟨v3, rfl, ho3, hx3⟩; obtain ⟨A3, n3, c3, rfl, hs3⟩ := ho3.sl HLL.out HLB.out; clear ho3)
      | (go_at_call 13; (with_reducible refine (same_c _ _ _ (litsT S.rows) _ _ _ (litsT S.rows) _ (hs2.ext ?_) hs3).mono ?_); (repeat (first | with_reducible exact Ext.refl _ | with_reducible apply Ext.alloc | with_reducible apply Ext.drew | with_reducible apply Ext.drewN | (apply Ext.trans'; assumption))); rintro e w4 ⟨rfl, hx4⟩; rw [hse]; clear hs2 hs3)
      | (go_at_call 19; (with_reducible refine (trDepth_c _ base p gm lv bv vars S.rows bs (HM.out.ext ?_)).mono ?_); (repeat (first | with_reducible exact Ext.refl _ | with_reducible apply Ext.alloc | with_reducible apply Ext.drew | with_reducible apply Ext.drewN | (apply Ext.trans'; assumption))); rintro e w5 ⟨rfl, hx5⟩; rw [HBL.out])
      | (go_at_call 41; (with_reducible refine (trOpen_c _ base p gm lv bv vars S.rows bs (HM.out.ext ?_)).mono ?_); (repeat (first | with_reducible exact Ext.refl _ | with_reducible apply Ext.alloc | with_reducible apply Ext.drew | with_reducible apply Ext.drewN | (apply Ext.trans'; assumption))); rintro e w6 ⟨rfl, hx6⟩; rw [← HVV.out])
      | (go_at_call 17; (with_reducible refine (trLevel_c _ base p gm lv bv vars S.rows bs v (HM.out.ext ?_)).mono ?_); (repeat (first | with_reducible exact Ext.refl _ | with_reducible apply Ext.alloc | with_reducible apply Ext.drew | with_reducible apply Ext.drewN | (apply Ext.trans'; assumption))); rintro e w7 ⟨rfl, hx7⟩)
      | (go_at_call 18; (with_reducible refine (trReason_c _ base p gm lv bv vars S.rows bs v (HM.out.ext ?_)).mono ?_); (repeat (first | with_reducible exact Ext.refl _ | with_reducible apply Ext.alloc | with_reducible apply Ext.drew | with_reducible apply Ext.drewN | (apply Ext.trans'; assumption))); rintro e w8 ⟨rfl, hx8⟩)
      | (go_at_call 21; (with_reducible refine (trPlace_c _ base p gm lv bv vars S.rows bs v (HM.out.ext ?_)).mono ?_); (repeat (first | with_reducible exact Ext.refl _ | with_reducible apply Ext.alloc | with_reducible apply Ext.drew | with_reducible apply Ext.drewN | (apply Ext.trans'; assumption))); rintro e w9 ⟨rfl, hx9⟩)
      | (go_at_call 47; (with_reducible refine (rPlaceT_c _ 0 _ S v (HR.out.ext ?_) hsm).mono ?_); (repeat (first | with_reducible exact Ext.refl _ | with_reducible apply Ext.alloc | with_reducible apply Ext.drew | with_reducible apply Ext.drewN | (apply Ext.trans'; assumption))); rintro e w10 ⟨rfl, hx10⟩)
      | (go_at_call 22; (with_reducible refine (trValue_c _ base p gm lv bv vars S.rows bs v (HM.out.ext ?_) hv3 hv2).mono ?_); (repeat (first | with_reducible exact Ext.refl _ | with_reducible apply Ext.alloc | with_reducible apply Ext.drew | with_reducible apply Ext.drewN | (apply Ext.trans'; assumption))); rintro e w11 ⟨rfl, hx11⟩)
      | (go_at_call 48; (with_reducible refine (rValueT_c _ 0 _ S v (HR.out.ext ?_) hsm hv4 hv2).mono ?_); (repeat (first | with_reducible exact Ext.refl _ | with_reducible apply Ext.alloc | with_reducible apply Ext.drew | with_reducible apply Ext.drewN | (apply Ext.trans'; assumption))); rintro e w12 ⟨rfl, hx12⟩)
      | (go_at_call 22; (with_reducible refine (trValue_c _ base p gm lv bv vars S.rows bs (-v) (HM.out.ext ?_) hv5 hv6).mono ?_); (repeat (first | with_reducible exact Ext.refl _ | with_reducible apply Ext.alloc | with_reducible apply Ext.drew | with_reducible apply Ext.drewN | (apply Ext.trans'; assumption))); rintro e w13 ⟨rfl, hx13⟩)
      | (go_at_call 48; (with_reducible refine (rValueT_c _ 0 _ S (-v) (HR.out.ext ?_) hsm hv7 hv6).mono ?_); (repeat (first | with_reducible exact Ext.refl _ | with_reducible apply Ext.alloc | with_reducible apply Ext.drew | with_reducible apply Ext.drewN | (apply Ext.trans'; assumption))); rintro e w14 ⟨rfl, hx14⟩))
  go_wp2
  go_ret
  exact ⟨rfl, by (repeat (first | with_reducible exact Ext.refl _ | with_reducible apply Ext.alloc | with_reducible apply Ext.drew | with_reducible apply Ext.drewN | (apply Ext.trans'; assumption)))⟩
end Go.Proofs.Ytbkimfefbdfkbaa
