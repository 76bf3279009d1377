/- replevinlaw08.awake answers true. -/
import Derived.Test.YtdhohoabcokdjaaRup4
import Derived.Test.YtdhohoabcokdjaaSl
set_option maxRecDepth 100000
namespace Go.Proofs.Ytdhohoabcokdjaa
open Go.RowKit

def hintsL : List (List Int) := [[-2, 3], [-1, 2], [1]]
theorem hints08_c (w : World) : Calls Try.prog 47 #[] w (RetRowsC hintsL w) := by
  have L1 := intSl_newg #[.int .i64 (-2), .int .i64 3] 3 [-2, 3] 2 rfl rfl (by decide) (by decide)
  have L2 := intSl_newg #[.int .i64 (-1), .int .i64 2] 3 [-1, 2] 2 rfl rfl (by decide) (by decide)
  have L3 := intSl_newg #[.int .i64 1] 3 [1] 1 rfl rfl (by decide) (by decide)
  have H1 := Lib.hid L1
  have H2 := Lib.hid L2
  have H3 := Lib.hid L3
  clear L1 L2 L3
  go_enter Try.func47, Try.ntmps47
  go_wp2
  go_ret
  refine ⟨_, _, _, rfl, rowsSl_newg (w := ((w.alloc (Obj.cells #[.int .i64 (-2), .int .i64 3] 3)).alloc (Obj.cells #[.int .i64 (-1), .int .i64 2] 3)).alloc (Obj.cells #[.int .i64 1] 3)) _ _ hintsL 3 rfl (by decide) (by simp) (RowVals.cons ((H1.out w _ rfl).ext ?_) (RowVals.cons ((H2.out (w.alloc (Obj.cells #[.int .i64 (-2), .int .i64 3] 3)) _ (by simp)).ext ?_) (RowVals.cons (H3.out ((w.alloc (Obj.cells #[.int .i64 (-2), .int .i64 3] 3)).alloc (Obj.cells #[.int .i64 (-1), .int .i64 2] 3)) _ (by simp)) (RowVals.nil _)))), by decide, ?_⟩
  · (repeat (first | with_reducible exact Ext.refl _ | with_reducible apply Ext.alloc | with_reducible apply Ext.drew | with_reducible apply Ext.drewN | (apply Ext.trans'; assumption)))
  · (repeat (first | with_reducible exact Ext.refl _ | with_reducible apply Ext.alloc | with_reducible apply Ext.drew | with_reducible apply Ext.drewN | (apply Ext.trans'; assumption)))
  · (repeat (first | with_reducible exact Ext.refl _ | with_reducible apply Ext.alloc | with_reducible apply Ext.drew | with_reducible apply Ext.drewN | (apply Ext.trans'; assumption)))

def awL : List (List Int) := [[1], [9, 8], [-1, 2], [-2, 3]]
theorem fin4 {a : Int} (h : 0 ≤ a ∧ a < 4) : ∃ x : Fin 4, a = (x.val : Int) := ⟨⟨a.toNat, by omega⟩, by simp; omega⟩
theorem aw_1 : ∀ a : Fin 4, (chainV (startV [3]) (rowsN awL [(a.val : Int)]) 0).2 ≠ (1, 0) := by decide +kernel
theorem aw_2 : ∀ a b : Fin 4, (chainV (startV [3]) (rowsN awL [(a.val : Int), (b.val : Int)]) 0).2 ≠ (2, 0) := by decide +kernel
theorem aw_4 : ∀ a b c d : Fin 4, (chainV (startV [3]) (rowsN awL [(a.val : Int), (b.val : Int), (c.val : Int), (d.val : Int)]) 0).2 ≠ (4, 0) := by decide +kernel
theorem aw_0 : (chainV (startV [3]) (rowsN awL []) 0).2 ≠ (0, 0) ∧ (decide (startE [3] = 0) && refutesV awL [3]) = true := by decide +kernel
theorem aw_hints {l : List Int} {b : Bool} (h : HintsOk awL [3] l b) : b = true ∧ l.length = 3 := by
  obtain ⟨h1, _, h3⟩ := h
  rw [aw_0.2] at h1
  refine ⟨h1, ?_⟩
  obtain ⟨hb, hlen, hc⟩ := h3 h1
  have hb' : ∀ i ∈ l, 0 ≤ i ∧ i < 4 := hb
  have hlen' : l.length ≤ 4 := hlen
  match l, hb', hlen', hc with
  | [], _, _, hc => exact absurd hc aw_0.1
  | [a], hb, _, hc =>
    obtain ⟨x, rfl⟩ := fin4 (hb a (by simp))
    exact absurd hc (aw_1 x)
  | [a, b], hb, _, hc =>
    obtain ⟨x, rfl⟩ := fin4 (hb a (by simp))
    obtain ⟨y, rfl⟩ := fin4 (hb b (by simp))
    exact absurd hc (aw_2 x y)
  | [_, _, _], _, _, _ => rfl
  | [a, b, c, d], hb, _, hc =>
    obtain ⟨x, rfl⟩ := fin4 (hb a (by simp))
    obtain ⟨y, rfl⟩ := fin4 (hb b (by simp))
    obtain ⟨z, rfl⟩ := fin4 (hb c (by simp))
    obtain ⟨u, rfl⟩ := fin4 (hb d (by simp))
    exact absurd hc (aw_4 x y z u)
  | _ :: _ :: _ :: _ :: _ :: _, _, h, _ => simp at h
theorem aw_facts : showU [3] hintsL = 3 ∧ showE [3] hintsL = 0 ∧ showE [3] (hintsL.take 2) = 23 ∧ showU [3] [[4, 5]] = 0 ∧ showE [3] [[4, 5]] = 22 ∧ startV [3, -4, 3] = [-3, 4] ∧ startE [3, -4, 3] = 0 ∧ startE [3, -3] = 11 ∧ stepV [1] [-1] = ([1], true, 0) ∧ chainV [-3] hintsL 0 = ([-3, -2, -1], 3, 0) := by decide +kernel

set_option maxRecDepth 100000 in
set_option maxHeartbeats 4000000 in
theorem law08awake_c (w : World) : Calls Try.prog 12 #[] w fun e w' => e = .returned (.bool true) ∧ Ext w w' := by
  have L3 := Lib.hid (intSl_newg #[.int .i64 3] 3 [3] 1 rfl rfl (by decide) (by decide))
  have L45 := Lib.hid (intSl_newg #[.int .i64 4, .int .i64 5] 3 [4, 5] 2 rfl rfl (by decide) (by decide))
  have L343 := Lib.hid (intSl_newg #[.int .i64 3, .int .i64 (-4), .int .i64 3] 3 [3, -4, 3] 3 rfl rfl (by decide) (by decide))
  have L33 := Lib.hid (intSl_newg #[.int .i64 3, .int .i64 (-3)] 3 [3, -3] 2 rfl rfl (by decide) (by decide))
  have L1 := Lib.hid (intSl_newg #[.int .i64 1] 3 [1] 1 rfl rfl (by decide) (by decide))
  have Lm1 := Lib.hid (intSl_newg #[.int .i64 (-1)] 3 [-1] 1 rfl rfl (by decide) (by decide))
  have Lm3 := Lib.hid (intSl_newg #[.int .i64 (-3)] 3 [-3] 1 rfl rfl (by decide) (by decide))
  have L98 := Lib.hid (intSl_newg #[.int .i64 9, .int .i64 8] 3 [9, 8] 2 rfl rfl (by decide) (by decide))
  have L12 := Lib.hid (intSl_newg #[.int .i64 (-1), .int .i64 2] 3 [-1, 2] 2 rfl rfl (by decide) (by decide))
  have L23 := Lib.hid (intSl_newg #[.int .i64 (-2), .int .i64 3] 3 [-2, 3] 2 rfl rfl (by decide) (by decide))
  have L34 := Lib.hid (intSl_newg #[.int .i64 (-3), .int .i64 4] 3 [-3, 4] 2 rfl rfl (by decide) (by decide))
  have L321 := Lib.hid (intSl_newg #[.int .i64 (-3), .int .i64 (-2), .int .i64 (-1)] 3 [-3, -2, -1] 3 rfl rfl (by decide) (by decide))
  have FF := Lib.hid aw_facts
  have s1 : sameV [-3, 4] [-3, 4] = true := by decide
  have s2 : sameV [-3, -2, -1] [-3, -2, -1] = true := by decide
  have S1 := Lib.hid s1
  have S2 := Lib.hid s2
  clear s1 s2
  go_enter Try.func12, Try.ntmps12
  go_wp2_with fail
  refine (hints08_c _).mono ?_
  rintro e w1 ⟨A1, n1, c1, rfl, h1, hc1, hx1⟩
  go_wp2_with fail
  refine (rupShow_c _ _ _ [3] _ _ _ hintsL _ ((L3.out w _ rfl).ext ?_) h1 (by decide) (by have := h1.1; simp [hintsL] at this; omega)).mono ?_
  · (repeat (first | with_reducible exact Ext.refl _ | with_reducible apply Ext.alloc | with_reducible apply Ext.drew | with_reducible apply Ext.drewN | (apply Ext.trans'; assumption)))
  rintro e w2 ⟨rfl, hx2⟩
  rw [FF.out.1, FF.out.2.1]
  go_wp2_with fail
  refine (hints08_c _).mono ?_
  rintro e w3 ⟨A3, n3, c3, rfl, h3, hc3, hx3⟩
  have hn3 : n3 = 3 := by have := h3.1; simp [hintsL] at this; omega
  have hc3' : 2 ≤ c3 := by omega
  have H3 := Lib.hid (h3.take (k := 2) (by omega))
  clear hn3 h3
  go_wp2_with fail
  refine (rupShow_c _ _ _ [3] _ _ _ (hintsL.take 2) _ ((L3.out w2 _ rfl).ext ?_) H3.out (by decide) (by decide)).mono ?_
  · (repeat (first | with_reducible exact Ext.refl _ | with_reducible apply Ext.alloc | with_reducible apply Ext.drew | with_reducible apply Ext.drewN | (apply Ext.trans'; assumption)))
  rintro e w4 ⟨rfl, hx4⟩
  rw [FF.out.2.2.1]
  go_wp2_with fail
  refine (rupShow_c _ _ _ [3] _ _ _ [[4, 5]] _ ((L3.out w4 _ rfl).ext ?_) (rowsSl_newg (w := (w4.alloc (Obj.cells #[.int .i64 3] 3)).alloc (Obj.cells #[.int .i64 4, .int .i64 5] 3)) _ _ [[4, 5]] 1 rfl (by decide) (by simp) (RowVals.cons (L45.out (w4.alloc (Obj.cells #[.int .i64 3] 3)) _ (by simp)) (RowVals.nil _))) (by decide) (by decide)).mono ?_
  · (repeat (first | with_reducible exact Ext.refl _ | with_reducible apply Ext.alloc | with_reducible apply Ext.drew | with_reducible apply Ext.drewN | (apply Ext.trans'; assumption)))
  rintro e w5 ⟨rfl, hx5⟩
  rw [FF.out.2.2.2.1, FF.out.2.2.2.2.1]
  go_wp2_with fail
  refine (rupStart_c _ _ _ [3, -4, 3] _ (L343.out _ _ ?_) (by decide)).mono ?_
  · first | with_reducible rfl | simp
  rintro e w6 ⟨v6, rfl, ho6, hx6⟩
  rw [FF.out.2.2.2.2.2.1] at ho6
  rw [FF.out.2.2.2.2.2.2.1]
  obtain ⟨A6, n6, c6, rfl, h6⟩ := ho6.sl (by decide) (by decide)
  clear ho6
  go_wp2_with fail
  refine (rupStart_c _ _ _ [3, -3] _ (L33.out _ _ ?_) (by decide)).mono ?_
  · first | with_reducible rfl | simp
  rintro e w7 ⟨v7, rfl, _, hx7⟩
  rw [FF.out.2.2.2.2.2.2.2.1]
  go_wp2_with fail
  refine (rupStep_c _ _ _ [1] _ _ _ [-1] _ ((L1.out w7 _ rfl).ext ?_) (by decide) (Lm1.out _ _ ?_) (by decide)).mono ?_
  · (repeat (first | with_reducible exact Ext.refl _ | with_reducible apply Ext.alloc | with_reducible apply Ext.drew | with_reducible apply Ext.drewN | (apply Ext.trans'; assumption)))
  · first | with_reducible rfl | simp
  rintro e w8 ⟨v8, rfl, _, hx8⟩
  simp only [FF.out.2.2.2.2.2.2.2.2.1]
  go_wp2_with fail
  refine (hints08_c _).mono ?_
  rintro e w9 ⟨A9, n9, c9, rfl, h9, hc9, hx9⟩
  go_wp2_with fail
  refine (rupChain_c _ _ _ [-3] _ _ _ hintsL _ ((Lm3.out w8 _ rfl).ext ?_) h9 (by decide) (by have := h9.1; simp [hintsL] at this; omega)).mono ?_
  · (repeat (first | with_reducible exact Ext.refl _ | with_reducible apply Ext.alloc | with_reducible apply Ext.drew | with_reducible apply Ext.drewN | (apply Ext.trans'; assumption)))
  rintro e w10 ⟨A10, n10, c10, rfl, h10, hx10⟩
  simp only [FF.out.2.2.2.2.2.2.2.2.2] at h10 ⊢
  go_wp2_with fail
  refine (hints_c _ _ _ awL _ _ _ [3] _ (RowsSl.ext (rowsSl_newg (w := (((w10.alloc (Obj.cells #[.int .i64 1] 3)).alloc (Obj.cells #[.int .i64 9, .int .i64 8] 3)).alloc (Obj.cells #[.int .i64 (-1), .int .i64 2] 3)).alloc (Obj.cells #[.int .i64 (-2), .int .i64 3] 3)) _ _ awL 4 rfl (by decide) (by simp) (RowVals.cons ((L1.out w10 _ rfl).ext ?_) (RowVals.cons ((L98.out (w10.alloc (Obj.cells #[.int .i64 1] 3)) _ (by simp)).ext ?_) (RowVals.cons ((L12.out ((w10.alloc (Obj.cells #[.int .i64 1] 3)).alloc (Obj.cells #[.int .i64 9, .int .i64 8] 3)) _ (by simp)).ext ?_) (RowVals.cons (L23.out (((w10.alloc (Obj.cells #[.int .i64 1] 3)).alloc (Obj.cells #[.int .i64 9, .int .i64 8] 3)).alloc (Obj.cells #[.int .i64 (-1), .int .i64 2] 3)) _ (by simp)) (RowVals.nil _)))))) ((Ext.refl _).alloc _)) (L3.out _ _ ?_) (by decide) (by decide) (by decide)).mono ?_
  · (repeat (first | with_reducible exact Ext.refl _ | with_reducible apply Ext.alloc | with_reducible apply Ext.drew | with_reducible apply Ext.drewN | (apply Ext.trans'; assumption)))
  · (repeat (first | with_reducible exact Ext.refl _ | with_reducible apply Ext.alloc | with_reducible apply Ext.drew | with_reducible apply Ext.drewN | (apply Ext.trans'; assumption)))
  · (repeat (first | with_reducible exact Ext.refl _ | with_reducible apply Ext.alloc | with_reducible apply Ext.drew | with_reducible apply Ext.drewN | (apply Ext.trans'; assumption)))
  · first | with_reducible rfl | simp
  rintro e w11 ⟨A11, n11, c11, l11, b11, rfl, h11, hok, hx11⟩
  obtain ⟨rfl, hl11⟩ := aw_hints hok
  have hn11 : n11 = 3 := by have := h11.1; omega
  subst hn11
  clear hok hl11 h11
  go_wp2_with fail
  refine (same_c _ _ _ [-3, 4] _ _ _ [-3, 4] _ (h6.ext ?_) (L34.out _ _ ?_)).mono ?_
  · (repeat (first | with_reducible exact Ext.refl _ | with_reducible apply Ext.alloc | with_reducible apply Ext.drew | with_reducible apply Ext.drewN | (apply Ext.trans'; assumption)))
  · first | with_reducible rfl | simp
  rintro e w12 ⟨rfl, hx12⟩
  rw [S1.out]
  go_wp2_with fail
  refine (same_c _ _ _ [-3, -2, -1] _ _ _ [-3, -2, -1] _ (h10.ext ?_) (L321.out _ _ ?_)).mono ?_
  · (repeat (first | with_reducible exact Ext.refl _ | with_reducible apply Ext.alloc | with_reducible apply Ext.drew | with_reducible apply Ext.drewN | (apply Ext.trans'; assumption)))
  · first | with_reducible rfl | simp
  rintro e w13 ⟨rfl, hx13⟩
  rw [S2.out]
  go_wp2_with fail
  go_ret
  exact ⟨rfl, by (repeat (first | with_reducible exact Ext.refl _ | with_reducible apply Ext.alloc | with_reducible apply Ext.drew | with_reducible apply Ext.drewN | (apply Ext.trans'; assumption)))⟩
end Go.Proofs.Ytdhohoabcokdjaa
