/- replevinlaw09.Case.hints. -/
import Derived.Test.YtdhohoabcokdjaaCaseH
import Derived.Test.YtdhohoabcokdjaaRup4
import Derived.Deep.RegionLaw
set_option maxRecDepth 100000
namespace Go.Proofs.Ytdhohoabcokdjaa
open Go.RowKit

theorem SlV.new1v (w : World) (cs : Array Value) (t : TypeId) : SlV (w.alloc (.cells cs t)) (some ⟨w.heap.size, 0, none⟩) 1 cs.size cs.toList :=
  ⟨by simp, by decide, fun _ => ⟨_, rfl, fun j u hj => by
    have e : (⟨w.heap.size, 0, none⟩ : Addr).add j = ⟨w.heap.size, j, none⟩ := by unfold Addr.add; split <;> simp_all
    rw [e, cell_of_row (w.alloc (.cells cs t)) w.heap.size j cs t (0, 0) (heap_alloc_new w _)]
    simpa using hj⟩⟩
theorem eltE : Elt 63 101 (.agg #[.int .i64 0, .slice none 0 0]) 2 32 := ⟨Try.underlying63, by kernel_rfl, rfl, by decide, by decide⟩
def RetHintM (L each : List (List Int)) (w : World) (e : Ending) (w' : World) : Prop := ∃ b A n c, e = .returned (.tuple #[.map (some b), .slice A n c]) ∧ HintM w w' b each.length L each ∧ Ext w w'

set_option maxRecDepth 100000 in
set_option maxHeartbeats 4000000 in
theorem hintsC_c (A : Option Addr) (n c : Nat) (L : List (List Int)) (A1 : Option Addr) (n1 c1 : Nat) (A2 : Option Addr) (n2 c2 : Nat) (A3 : Option Addr) (n3 c3 : Nat) (each : List (List Int)) (w : World) (h : RowsSl w A n L) (h3 : RowsSl w A3 n3 each) (hsm : n3 ≤ 1000) (hrows : ∀ r ∈ each, r.length ≤ 1000) :
    Calls Try.prog 34 #[.agg #[.slice A n c, .slice A1 n1 c1, .slice A2 n2 c2, .slice A3 n3 c3]] w (RetHintM L each w) := by
  have HL3 := Lib.hid h3.1
  have hb0 := (Blk.new w 61 #[.slice A n c, .slice A1 n1 c1, .slice A2 n2 c2, .slice A3 n3 c3]).alloc (.map #[] 0)
  have HB0 := Lib.hid hb0
  have HXA : Hid (Ext w ((w.alloc (Obj.cells #[.slice A n c, .slice A1 n1 c1, .slice A2 n2 c2, .slice A3 n3 c3] 61)).alloc (.map #[] 0))) := ((Ext.refl _).alloc _).alloc _
  have hm0 : HintM w ((w.alloc (Obj.cells #[.slice A n c, .slice A1 n1 c1, .slice A2 n2 c2, .slice A3 n3 c3] 61)).alloc (.map #[] 0)) (w.heap.size + 1) 0 L each := by
    have := HintM.made w (w.alloc (Obj.cells #[.slice A n c, .slice A1 n1 c1, .slice A2 n2 c2, .slice A3 n3 c3] 61)) L each
    rwa [World.size_alloc] at this
  have HM0 := Lib.hid hm0
  have HROWS := Lib.hid hrows
  have hmk := fun (W : World) => run_makeMap_none (P := Try.prog) 62 W
  clear hb0 hm0 hrows
  go_enter Try.func34, Try.ntmps34
  go_wp2_with fail
  go_loopw [5, 6] (fun v i wr => ∃ (j : Nat) (us : List Value), j ≤ n3 ∧ i = .int .i64 j ∧ OwnV wr w.heap.size 101 2 v j us ∧ HintM w wr (w.heap.size + 1) j L each ∧ Blk wr w.heap.size 61 #[.slice A n c, .slice A1 n1 c1, .slice A2 n2 c2, .slice A3 n3 c3] ∧ Ext w wr) (fun _ i _ => n3 - (intOf i).toNat)
  case atStart => exact ⟨0, [], Nat.zero_le _, rfl, World.ownsRow_nil _ _ _ _, HM0.out, HB0.out, HXA.out⟩
  case round =>
    obtain ⟨j, us, hj, rfl, ho, hm, hb, hx⟩ := hrel
    obtain ⟨Av, nv, cv, rfl⟩ := ho.form
    have y0 := hb.cell 0
    have y1 := hb.cell 1
    have y2 := hb.cell 2
    have y3 := hb.cell 3
    have HO := Lib.hid ho
    have HM := Lib.hid hm
    have HB := Lib.hid hb
    have HXR := Lib.hid hx
    have hsz := hx.size_le
    clear ho hm hb hx
    by_cases hlt : j < n3
    · obtain ⟨ad, ys, A5, n5, c5, rfl, hy, hcy, hrow⟩ := (h3.ext HXR.out).at_ hlt
      have hn5 : n5 ≤ 1000 := by have := HROWS.out ys (List.mem_of_getElem? hy.out); have := hrow.1; omega
      have HROW := Lib.hid hrow
      obtain ⟨f, hf1, hf2⟩ := HM.out
      have HF1 := Lib.hid hf1
      have HF2 := Lib.hid hf2
      have hgd : each.getD j [] = ys := by rw [List.getD_eq_getElem?_getD, hy.out]; rfl
      have HGD := Lib.hid hgd
      have hql := rowsQ_len L ys
      have b0 : (0 : Int) ≤ (j : Int) := by omega
      have b1 : (j : Int) < (n3 : Int) := by omega
      clear hrow hf1 hf2 hgd
      go_wp2_with fail
      go_region_law
        (((go_simp; (with_reducible refine (rows9_c _ _ _ L _ _ _ _ _ _ ys w _ (HXR.out.trans (show Ext wr _ by (repeat (first | with_reducible exact Ext.refl _ | with_reducible apply Ext.alloc | with_reducible apply Ext.drew | with_reducible apply Ext.drewN | (apply Ext.trans'; assumption))))) h (HROW.out.ext (show Ext wr _ by (repeat (first | with_reducible exact Ext.refl _ | with_reducible apply Ext.alloc | with_reducible apply Ext.drew | with_reducible apply Ext.drewN | (apply Ext.trans'; assumption))))) (by omega) ⟨_, _, _, _, _, _, _, _, _, rfl, rfl, rfl⟩).mono ?_); rintro e w4 ⟨A4, n4, c4, rfl, _, _, ⟨b4, _, ho4⟩, hx4⟩; have hx5 : Ext wr w4 := (show Ext wr _ by (repeat (first | with_reducible exact Ext.refl _ | with_reducible apply Ext.alloc | with_reducible apply Ext.drew | with_reducible apply Ext.drewN | (apply Ext.trans'; assumption)))); obtain ⟨w5, hrun5, hm5, hg5⟩ := (HF1.out.ext hx5).set (by omega) (j : Int) (.slice A4 n4 c4) (by omega); have HM5 := Lib.hid hm5; have HG5 := Lib.hid hg5; have HO4 := Lib.hid ho4; have HX4 := Lib.hid hx5; clear ho4 hx4 hx5 hm5 hg5; dsimp only)))
      all_goals
        have hlen4 : (rowsQ L ys).length ≤ 10000000 := by have e1 := HROW.out.1; omega
        have hmore : HintM w w5 (w.heap.size + 1) (j + 1) L each := HintM.more (HF1.out.ext HX4.out) (fun x => ⟨(HF2.out x).1, fun hr => by
          obtain ⟨A', n', c', g', e1, e2, e3⟩ := (HF2.out x).2 hr
          exact ⟨A', n', c', g', e1, e2, e3.ext HX4.out⟩⟩) (by rw [HGD.out]; exact HO4.out) (by rw [HGD.out]; exact hlen4) HG5.out HM5.out
        have hx5 : Ext w w5 := Ext.grown (HXR.out.trans HX4.out) HG5.out (by intro k hk; cases hk; omega)
        have hb5 : Blk w5 w.heap.size 61 #[.slice A n c, .slice A1 n1 c1, .slice A2 n2 c2, .slice (some ad) n3 c3] := (HB.out.ext HX4.out).grown HG5.out (by intro e; injection e; omega)
        have ho5 : OwnV w5 w.heap.size 101 2 (.slice Av nv cv) j us := World.ownsRow.kept (OwnV.ext HO.out HX4.out) HG5.out (Or.inr (Ne.symm ((HF1.out.ext HX4.out).ne_own (OwnV.ext HO.out HX4.out))))
        have hcy5 := (HF1.out.ext HX4.out).cell_kept HG5.out (HX4.out.cell hcy)
        have hrow5 := (HF1.out.ext HX4.out).int_kept HG5.out (HROW.out.ext HX4.out)
        have z0 := hb5.cell 0
        have z1 := hb5.cell 1
        have z2 := hb5.cell 2
        have z3 := hb5.cell 3
        have HMO := Lib.hid hmore
        have HX5 := Lib.hid hx5
        have HB5 := Lib.hid hb5
        have HO5 := Lib.hid ho5
        have HR5 := Lib.hid hrow5
        have hsz5 := hx5.size_le
        clear hmore hx5 hb5 ho5 hrow5 hrun5 hmk y0 y1 y2 y3 hcy
        go_wp2_with fail
        go_region_law
          ((first
            | (go_simp; (with_reducible refine (rows9_c _ _ _ L _ _ _ _ _ _ ys w _ (HX5.out.trans (show Ext w5 _ by (repeat (first | with_reducible exact Ext.refl _ | with_reducible apply Ext.alloc | with_reducible apply Ext.drew | with_reducible apply Ext.drewN | (apply Ext.trans'; assumption))))) h (HR5.out.ext (show Ext w5 _ by (repeat (first | with_reducible exact Ext.refl _ | with_reducible apply Ext.alloc | with_reducible apply Ext.drew | with_reducible apply Ext.drewN | (apply Ext.trans'; assumption))))) (by omega) ⟨_, _, _, _, _, _, _, _, _, rfl, rfl, rfl⟩).mono ?_); rintro e w6 ⟨A6, n6, c6, rfl, _, _, _, hx6⟩; have hx7 : Ext w5 w6 := (show Ext w5 _ by (repeat (first | with_reducible exact Ext.refl _ | with_reducible apply Ext.alloc | with_reducible apply Ext.drew | with_reducible apply Ext.drewN | (apply Ext.trans'; assumption)))); have HX7 := Lib.hid hx7; clear hx6 hx7; dsimp only)
            | (refine step_appendV eltE _ (by rfl) (.tmp 24) (.tmp 34) (by rfl) w.heap.size _ j us (by rfl) (OwnV.ext HO5.out (HX7.out.trans (show Ext w6 _ by (repeat (first | with_reducible exact Ext.refl _ | with_reducible apply Ext.alloc | with_reducible apply Ext.drew | with_reducible apply Ext.drewN | (apply Ext.trans'; assumption)))))) _ _ _ #[.int .i64 j, .slice A6 n6 c6].toList (by rfl) (by exact SlV.new1v _ _ _) (by intro u hu; simp at hu; rcases hu with rfl | rfl <;> rfl) (by omega) (by have := HX7.out.size_le; simp; omega) ?_; intro A8 n8 c8 w8 ho8 hg8 hloc; have hm8 := HintM.kept (HMO.out.ext (HX7.out.trans (show Ext w6 _ by (repeat (first | with_reducible exact Ext.refl _ | with_reducible apply Ext.alloc | with_reducible apply Ext.drew | with_reducible apply Ext.drewN | (apply Ext.trans'; assumption)))))) (OwnV.ext HO5.out (HX7.out.trans (show Ext w6 _ by (repeat (first | with_reducible exact Ext.refl _ | with_reducible apply Ext.alloc | with_reducible apply Ext.drew | with_reducible apply Ext.drewN | (apply Ext.trans'; assumption)))))) (by decide) hg8; have hb8 := (HB5.out.ext (HX7.out.trans (show Ext w6 _ by (repeat (first | with_reducible exact Ext.refl _ | with_reducible apply Ext.alloc | with_reducible apply Ext.drew | with_reducible apply Ext.drewN | (apply Ext.trans'; assumption)))))).grown hg8 (Ne.symm (ownsRow_ne_blk (OwnV.ext HO5.out (HX7.out.trans (show Ext w6 _ by (repeat (first | with_reducible exact Ext.refl _ | with_reducible apply Ext.alloc | with_reducible apply Ext.drew | with_reducible apply Ext.drewN | (apply Ext.trans'; assumption)))))) (HB5.out.ext (HX7.out.trans (show Ext w6 _ by (repeat (first | with_reducible exact Ext.refl _ | with_reducible apply Ext.alloc | with_reducible apply Ext.drew | with_reducible apply Ext.drewN | (apply Ext.trans'; assumption)))))) (by decide))); have hx8 : Ext w w8 := Ext.grown (HX5.out.trans (HX7.out.trans (show Ext w6 _ by (repeat (first | with_reducible exact Ext.refl _ | with_reducible apply Ext.alloc | with_reducible apply Ext.drew | with_reducible apply Ext.drewN | (apply Ext.trans'; assumption)))))) hg8 (fun q hq => (OwnV.blk HO5.out q hq).1); have HM8 := Lib.hid hm8; have HB8 := Lib.hid hb8; have HX8 := Lib.hid hx8; have HO8 := Lib.hid ho8; clear ho8 hg8 hloc hm8 hb8 hx8)))
        all_goals
          go_wp2_with fail
          go_roundw
          case rel => exact ⟨j + 1, _, by omega, by go_num, HO8.out, HM8.out, HB8.out, HX8.out⟩
          case measure => simp [intOf]; omega
    · have hjn : j = each.length := by have := HL3.out; omega
      have hm := HM.out
      rw [hjn] at hm
      have HMF := Lib.hid hm
      clear hm hjn HM
      go_wp2_with fail
      go_ret2
      exact ⟨_, _, _, _, rfl, HMF.out, HXR.out⟩
end Go.Proofs.Ytdhohoabcokdjaa
