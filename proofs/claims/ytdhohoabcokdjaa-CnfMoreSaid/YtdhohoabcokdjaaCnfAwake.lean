/- replevinlaw04.awake answers true. -/
import Derived.Test.YtdhohoabcokdjaaCnf6
import Derived.Test.YtdhohoabcokdjaaRegInv
set_option maxRecDepth 100000
namespace Go.Proofs.Ytdhohoabcokdjaa
open Go.RowKit

theorem pcV_len (xs : List Int) (u : Int) : pcV xs u ≤ xs.length := List.countP_le_length
theorem qcV_len (xs : List Int) (u : Int) : qcV xs u ≤ xs.length := List.countP_le_length

def twoL : List (List Int) := [[1, 2], [-1, 2]]
/-- What two hands back. -/
def RetForm (v : Int) (L : List (List Int)) (w : World) (e : Ending) (w' : World) : Prop := ∃ A n c, e = .returned (.agg #[.int .i64 v, .slice A n c]) ∧ RowsSl w' A n L ∧ n ≤ c ∧ Ext w w'

theorem two_c (w : World) : Calls Try.prog 70 #[] w (RetForm 2 twoL w) := by
  have L1 := Lib.hid (intSl_newg #[.int .i64 1, .int .i64 2] 3 [1, 2] 2 rfl rfl (by decide) (by decide))
  have L2 := Lib.hid (intSl_newg #[.int .i64 (-1), .int .i64 2] 3 [-1, 2] 2 rfl rfl (by decide) (by decide))
  go_enter Try.func70, Try.ntmps70
  go_wp2
  have hrow := rowsSl_newg (w := (((w.alloc (Obj.cells #[.int .i64 2, .slice (some ⟨w.heap.size + 1 + 1 + 1, 0, none⟩) 2 2] 48)).alloc (Obj.cells #[.int .i64 1, .int .i64 2] 3)).alloc (Obj.cells #[.int .i64 (-1), .int .i64 2] 3))) (g := w.heap.size + 1 + 1 + 1) _ 22 twoL 2 rfl (by decide) (by simp) (RowVals.cons (c := 2) ((L1.out (w.alloc (Obj.cells #[.int .i64 2, .slice (some ⟨w.heap.size + 1 + 1 + 1, 0, none⟩) 2 2] 48)) (w.heap.size + 1) (by simp)).ext ((Ext.refl _).alloc _)) (RowVals.cons (c := 2) (L2.out ((w.alloc (Obj.cells #[.int .i64 2, .slice (some ⟨w.heap.size + 1 + 1 + 1, 0, none⟩) 2 2] 48)).alloc (Obj.cells #[.int .i64 1, .int .i64 2] 3)) (w.heap.size + 1 + 1) (by simp)) (RowVals.nil _)))
  have hb := (((Blk.new w 48 #[.int .i64 2, .slice (some ⟨w.heap.size + 1 + 1 + 1, 0, none⟩) 2 2]).alloc (Obj.cells #[.int .i64 1, .int .i64 2] 3)).alloc (Obj.cells #[.int .i64 (-1), .int .i64 2] 3)).alloc (Obj.cells #[.slice (some ⟨w.heap.size + 1, 0, none⟩) 2 2, .slice (some ⟨w.heap.size + 1 + 1, 0, none⟩) 2 2] 22)
  have t0 := hb.cell 0
  have t1 := hb.cell 1
  refine bodyPost_ret (v := .agg #[.int .i64 2, .slice (some ⟨w.heap.size + 1 + 1 + 1, 0, none⟩) 2 2]) (by simp [results, Try.results70, go_sem, t0, t1]) rfl ⟨_, _, _, rfl, hrow, Nat.le_refl _, by (repeat (first | with_reducible exact Ext.refl _ | with_reducible apply Ext.alloc | with_reducible apply Ext.drew | with_reducible apply Ext.drewN | (apply Ext.trans'; assumption)))⟩

theorem with_facts : fCheckV 2 twoL = (2, 0) ∧ pcV twoL.flatten (1 : Nat) = 1 ∧ qcV twoL.flatten (1 : Nat) = 1 ∧ fCheckV 1 [[1], [1, -1]] = (1, 11) ∧ withV 2 [[-3]] = 3 ∧ pureV 2 twoL = [2] ∧ holdsF 2 twoL [true, true] = true ∧ holdsF 2 twoL [true, false] = false ∧ firstV twoL [true, false] = 1 := by decide +kernel
theorem with_facts2 : statusV [2] twoL = 1 ∧ statusV [1] twoL = 0 ∧ statusV [1, -2] twoL = -1 ∧ mostN twoL = 4 ∧ sameFV 3 (twoL ++ [[-3]]) 3 (twoL ++ [[-3]]) = true ∧ sameFV 3 (twoL ++ [[-3]]) 2 twoL = false ∧ sameV [2] [2] = true := by decide +kernel
theorem two_pq (u : Int) : pcV twoL.flatten u ≤ 300 ∧ qcV twoL.flatten u ≤ 300 := by
  have h1 := pcV_len twoL.flatten u
  have h2 := qcV_len twoL.flatten u
  have h3 : twoL.flatten.length = 4 := rfl
  omega

def base04 (g : Nat) : List (Nat × Spec) := [(1, .val (.int .i64 2)), (2, .val (.int .i64 0)), (3, .val (.int .i64 1)), (4, .val (.int .i64 1)), (5, .val (.int .i64 1)), (6, .val (.int .i64 11)), (7, .val (.pointer (some ⟨g, 0, none⟩)))]
def reg04 (g : Nat) (A : Option Addr) (c : Nat) : List (Nat × Spec) := [(30, .val (.int .i64 2)), (31, .val (.bool true)), (32, .val (.bool true)), (33, .val (.int .i64 0)), (34, .val (.bool true)), (35, .val (.bool true)), (36, .val (.bool true)), (37, .val (.int .i64 1)), (38, .val (.bool true)), (39, .val (.bool true)), (40, .val (.bool true)), (41, .val (.int .i64 1)), (42, .val (.bool true)), (43, .val (.bool true)), (44, .val (.bool true)), (45, .val (.int .i64 1)), (46, .val (.bool true)), (47, .val (.bool true)), (48, .val (.bool true)), (49, .val (.int .i64 11)), (50, .val (.bool true)), (51, .val (.bool true)), (52, .val (.bool true)), (53, .form 2 twoL), (54, .ints [2]), (55, .ints [2]), (56, .val (.bool true)), (57, .val (.bool true)), (58, .val (.bool true)), (59, .form 2 twoL), (60, .bools [true, true]), (61, .val (.bool true)), (62, .val (.bool true)), (63, .val (.bool true)), (64, .form 2 twoL), (65, .bools [true, false]), (66, .val (.bool false)), (67, .val (.bool true)), (68, .val (.bool true)), (69, .val (.bool true)), (70, .form 2 twoL), (71, .bools [true, false]), (72, .val (.int .i64 1)), (73, .val (.bool true)), (74, .val (.bool true)), (75, .val (.bool true)), (76, .form 2 twoL), (77, .ints [2]), (78, .val (.int .i64 1)), (79, .val (.bool true)), (80, .val (.bool true)), (81, .val (.bool true)), (82, .form 2 twoL), (83, .ints [1]), (84, .val (.int .i64 0)), (85, .val (.bool true)), (86, .val (.bool true)), (87, .val (.bool true)), (88, .form 2 twoL), (89, .ints [1, -2]), (90, .val (.int .i64 (-1))), (91, .val (.bool true)), (92, .val (.bool true)), (93, .val (.bool true)), (94, .form 2 twoL), (95, .val (.int .i64 4)), (96, .val (.bool true)), (97, .val (.bool true)), (98, .val (.bool true)), (99, .val (.pointer (some ⟨g, 0, none⟩))), (100, .val (.int .i64 3)), (101, .val (.bool true)), (102, .val (.bool true)), (103, .val (.bool true)), (104, .val (.pointer (some ⟨g, 1, none⟩))), (105, .val (.slice A 3 c)), (106, .val (.int .i64 3)), (107, .val (.bool true)), (108, .val (.bool true)), (109, .val (.bool true)), (110, .val (.agg #[.int .i64 3, .slice A 3 c])), (111, .val (.agg #[.int .i64 3, .slice A 3 c])), (112, .val (.bool true)), (113, .val (.bool true)), (114, .val (.bool true)), (115, .val (.agg #[.int .i64 3, .slice A 3 c])), (116, .form 2 twoL), (117, .val (.bool false)), (118, .val (.bool true)), (119, .val (.bool true)), (0, .val (.bool true))]

set_option maxRecDepth 100000 in
set_option maxHeartbeats 8000000 in
theorem law04awake_c (w : World) : Calls Try.prog 40 #[] w fun e w' => e = .returned (.bool true) ∧ Ext w w' := by
  have L1 := Lib.hid (intSl_newg #[.int .i64 1] 3 [1] 1 rfl rfl (by decide) (by decide))
  have L11 := Lib.hid (intSl_newg #[.int .i64 1, .int .i64 (-1)] 3 [1, -1] 2 rfl rfl (by decide) (by decide))
  have Lm3 := Lib.hid (intSl_newg #[.int .i64 (-3)] 3 [-3] 1 rfl rfl (by decide) (by decide))
  have L2 := Lib.hid (intSl_newg #[.int .i64 2] 3 [2] 1 rfl rfl (by decide) (by decide))
  have L12 := Lib.hid (intSl_newg #[.int .i64 1, .int .i64 (-2)] 3 [1, -2] 2 rfl rfl (by decide) (by decide))
  have Btt := Lib.hid (boolSl_newg #[.bool true, .bool true] 4 [true, true] 2 rfl rfl (by decide))
  have Btf := Lib.hid (boolSl_newg #[.bool true, .bool false] 4 [true, false] 2 rfl rfl (by decide))
  have FF := Lib.hid with_facts
  have GG := Lib.hid with_facts2
  go_enter Try.func40, Try.ntmps40
  go_wp2_with fail
  refine (two_c _).mono ?_
  rintro e w1 ⟨A1, n1, c1, rfl, h1, hc1, hx1⟩
  go_wp2_with fail
  refine (cnfCheck_c _ _ _ _ twoL _ h1).mono ?_
  rintro e w2 ⟨rfl, hx2⟩
  rw [FF.out.1]
  go_wp2_with fail
  refine (two_c _).mono ?_
  rintro e w3 ⟨A3, n3, c3, rfl, h3, hc3, hx3⟩
  go_wp2_with fail
  refine (balance_c _ _ _ _ twoL 1 _ h3 two_pq (by decide) (by decide)).mono ?_
  rintro e w4 ⟨rfl, hx4⟩
  rw [FF.out.2.1, FF.out.2.2.1]
  go_wp2_with fail
  refine (cnfCheck_c _ _ _ _ [[1], [1, -1]] _ (rowsSl_newg (w := (w4.alloc (Obj.cells #[.int .i64 1] 3)).alloc (Obj.cells #[.int .i64 1, .int .i64 (-1)] 3)) _ _ [[1], [1, -1]] 2 rfl (by decide) (by simp) (RowVals.cons ((L1.out w4 _ rfl).ext ((Ext.refl _).alloc _)) (RowVals.cons (L11.out (w4.alloc (Obj.cells #[.int .i64 1] 3)) _ (by simp)) (RowVals.nil _))))).mono ?_
  rintro e w5 ⟨rfl, hx5⟩
  rw [FF.out.2.2.2.1]
  go_wp2_with fail
  refine (two_c _).mono ?_
  rintro e w6 ⟨A6, n6, c6, rfl, h6, hc6, hx6⟩
  have hn6 : n6 ≤ 1000000 := by have := h6.1; simp [twoL] at this; omega
  go_wp2_with fail
  refine (with_c 2 _ _ _ twoL _ _ _ [[-3]] _ (h6.ext (by (repeat (first | with_reducible exact Ext.refl _ | with_reducible apply Ext.alloc | with_reducible apply Ext.drew | with_reducible apply Ext.drewN | (apply Ext.trans'; assumption))))) (rowsSl_newg (w := w6.alloc (Obj.cells #[.int .i64 (-3)] 3)) _ _ [[-3]] 1 rfl (by decide) (by simp) (RowVals.cons (Lm3.out w6 _ rfl) (RowVals.nil _))) (by decide) (by decide) hn6 (by decide) (by decide)).mono ?_
  rintro e w7 ⟨A7, n7, c7, rfl, h7, hc7, hx7⟩
  rw [FF.out.2.2.2.2.1]
  have hn7 : n7 = 3 := by have := h7.1; simp [twoL] at this; omega
  subst hn7
  go_wp2_with fail
  have hbw := Blk.new w7 48 #[.int .i64 3, .slice A7 3 c7]
  have h8 := h7.ext ((Ext.refl w7).alloc (Obj.cells #[.int .i64 3, .slice A7 3 c7] 48))
  have HX8 : Hid (Ext w (w7.alloc (Obj.cells #[.int .i64 3, .slice A7 3 c7] 48))) := by unfold Hid; (repeat (first | with_reducible exact Ext.refl _ | with_reducible apply Ext.alloc | with_reducible apply Ext.drew | with_reducible apply Ext.drewN | (apply Ext.trans'; assumption)))
  clear h1 h3 h6 h7 hx1 hx2 hx3 hx4 hx5 hx6 hx7 hc1 hc3 hc6 hn6
  have HBW := Lib.hid hbw
  have H8 := Lib.hid h8
  clear hbw h8
  generalize w7.alloc (Obj.cells #[.int .i64 3, .slice A7 3 c7] 48) = w8 at HBW H8 HX8 ⊢
  simp only [List.append_eq, List.cons_append, List.nil_append]
  refine wp_region_inv (SpecS (base04 w7.heap.size) (reg04 w7.heap.size A7 c7)) (by kernel_rfl) (by kernel_rfl) SpecS.ext (SpecS.start (by kernel_rfl) ?_) ?_ ?_
  · exact lookup_all (by simp [base04, Spec.holds])
  · simp only [List.forall_mem_cons]
    repeat' apply And.intro
    · refine rop_of [1] (by kernel_rfl) none (by kernel_rfl) (fun k hk => by cases hk) (fun K a w hK hx hl => ?_)
      have e1 : a.tmps.getD 1 undef = .int .i64 2 := (hl 1 (by decide)).1 _ rfl
      exact rop_val (v := .int .i64 2) (by go_simp) (hK _ _ (fun t ht => by cases ht; exact spec_new rfl rfl rfl) (Ext.refl _))
    · refine rop_of [30] (by kernel_rfl) none (by kernel_rfl) (fun k hk => by cases hk) (fun K a w hK hx hl => ?_)
      have e30 : a.tmps.getD 30 undef = .int .i64 2 := (hl 30 (by decide)).2 _ rfl
      exact rop_val (v := .bool true) (by go_simp) (hK _ _ (fun t ht => by cases ht; exact spec_new rfl rfl rfl) (Ext.refl _))
    · refine rop_of [31] (by kernel_rfl) none (by kernel_rfl) (fun k hk => by cases hk) (fun K a w hK hx hl => ?_)
      have e31 : a.tmps.getD 31 undef = .bool true := (hl 31 (by decide)).2 _ rfl
      exact rop_val (v := .bool true) (by go_simp) (hK _ _ (fun t ht => by cases ht; exact spec_new rfl rfl rfl) (Ext.refl _))
    · refine rop_of [2, 32] (by kernel_rfl) (some 32) (by kernel_rfl) (fun k hk v w hS => by cases hk; exact hS.2 _ rfl) (fun K a w hK hx hl => ?_)
      have e2 : a.tmps.getD 2 undef = .int .i64 0 := (hl 2 (by decide)).1 _ rfl
      exact rop_val (v := .int .i64 0) (by go_simp) (hK _ _ (fun t ht => by cases ht; exact spec_new rfl rfl rfl) (Ext.refl _))
    · refine rop_of [32, 33] (by kernel_rfl) (some 32) (by kernel_rfl) (fun k hk v w hS => by cases hk; exact hS.2 _ rfl) (fun K a w hK hx hl => ?_)
      have e33 : a.tmps.getD 33 undef = .int .i64 0 := (hl 33 (by decide)).2 _ rfl
      exact rop_val (v := .bool true) (by go_simp) (hK _ _ (fun t ht => by cases ht; exact spec_new rfl rfl rfl) (Ext.refl _))
    · refine rop_of [32, 34] (by kernel_rfl) none (by kernel_rfl) (fun k hk => by cases hk) (fun K a w hK hx hl => ?_)
      have e32 : a.tmps.getD 32 undef = .bool true := (hl 32 (by decide)).2 _ rfl
      have e34 : a.tmps.getD 34 undef = .bool true := (hl 34 (by decide)).2 _ rfl
      exact rop_val (v := .bool true) (by go_simp) (hK _ _ (fun t ht => by cases ht; exact spec_new rfl rfl rfl) (Ext.refl _))
    · refine rop_of [35] (by kernel_rfl) none (by kernel_rfl) (fun k hk => by cases hk) (fun K a w hK hx hl => ?_)
      have e35 : a.tmps.getD 35 undef = .bool true := (hl 35 (by decide)).2 _ rfl
      exact rop_val (v := .bool true) (by go_simp) (hK _ _ (fun t ht => by cases ht; exact spec_new rfl rfl rfl) (Ext.refl _))
    · refine rop_of [3, 36] (by kernel_rfl) (some 36) (by kernel_rfl) (fun k hk v w hS => by cases hk; exact hS.2 _ rfl) (fun K a w hK hx hl => ?_)
      have e3 : a.tmps.getD 3 undef = .int .i64 1 := (hl 3 (by decide)).1 _ rfl
      exact rop_val (v := .int .i64 1) (by go_simp) (hK _ _ (fun t ht => by cases ht; exact spec_new rfl rfl rfl) (Ext.refl _))
    · refine rop_of [36, 37] (by kernel_rfl) (some 36) (by kernel_rfl) (fun k hk v w hS => by cases hk; exact hS.2 _ rfl) (fun K a w hK hx hl => ?_)
      have e37 : a.tmps.getD 37 undef = .int .i64 1 := (hl 37 (by decide)).2 _ rfl
      exact rop_val (v := .bool true) (by go_simp) (hK _ _ (fun t ht => by cases ht; exact spec_new rfl rfl rfl) (Ext.refl _))
    · refine rop_of [36, 38] (by kernel_rfl) none (by kernel_rfl) (fun k hk => by cases hk) (fun K a w hK hx hl => ?_)
      have e36 : a.tmps.getD 36 undef = .bool true := (hl 36 (by decide)).2 _ rfl
      have e38 : a.tmps.getD 38 undef = .bool true := (hl 38 (by decide)).2 _ rfl
      exact rop_val (v := .bool true) (by go_simp) (hK _ _ (fun t ht => by cases ht; exact spec_new rfl rfl rfl) (Ext.refl _))
    · refine rop_of [39] (by kernel_rfl) none (by kernel_rfl) (fun k hk => by cases hk) (fun K a w hK hx hl => ?_)
      have e39 : a.tmps.getD 39 undef = .bool true := (hl 39 (by decide)).2 _ rfl
      exact rop_val (v := .bool true) (by go_simp) (hK _ _ (fun t ht => by cases ht; exact spec_new rfl rfl rfl) (Ext.refl _))
    · refine rop_of [4, 40] (by kernel_rfl) (some 40) (by kernel_rfl) (fun k hk v w hS => by cases hk; exact hS.2 _ rfl) (fun K a w hK hx hl => ?_)
      have e4 : a.tmps.getD 4 undef = .int .i64 1 := (hl 4 (by decide)).1 _ rfl
      exact rop_val (v := .int .i64 1) (by go_simp) (hK _ _ (fun t ht => by cases ht; exact spec_new rfl rfl rfl) (Ext.refl _))
    · refine rop_of [40, 41] (by kernel_rfl) (some 40) (by kernel_rfl) (fun k hk v w hS => by cases hk; exact hS.2 _ rfl) (fun K a w hK hx hl => ?_)
      have e41 : a.tmps.getD 41 undef = .int .i64 1 := (hl 41 (by decide)).2 _ rfl
      exact rop_val (v := .bool true) (by go_simp) (hK _ _ (fun t ht => by cases ht; exact spec_new rfl rfl rfl) (Ext.refl _))
    · refine rop_of [40, 42] (by kernel_rfl) none (by kernel_rfl) (fun k hk => by cases hk) (fun K a w hK hx hl => ?_)
      have e40 : a.tmps.getD 40 undef = .bool true := (hl 40 (by decide)).2 _ rfl
      have e42 : a.tmps.getD 42 undef = .bool true := (hl 42 (by decide)).2 _ rfl
      exact rop_val (v := .bool true) (by go_simp) (hK _ _ (fun t ht => by cases ht; exact spec_new rfl rfl rfl) (Ext.refl _))
    · refine rop_of [43] (by kernel_rfl) none (by kernel_rfl) (fun k hk => by cases hk) (fun K a w hK hx hl => ?_)
      have e43 : a.tmps.getD 43 undef = .bool true := (hl 43 (by decide)).2 _ rfl
      exact rop_val (v := .bool true) (by go_simp) (hK _ _ (fun t ht => by cases ht; exact spec_new rfl rfl rfl) (Ext.refl _))
    · refine rop_of [5, 44] (by kernel_rfl) (some 44) (by kernel_rfl) (fun k hk v w hS => by cases hk; exact hS.2 _ rfl) (fun K a w hK hx hl => ?_)
      have e5 : a.tmps.getD 5 undef = .int .i64 1 := (hl 5 (by decide)).1 _ rfl
      exact rop_val (v := .int .i64 1) (by go_simp) (hK _ _ (fun t ht => by cases ht; exact spec_new rfl rfl rfl) (Ext.refl _))
    · refine rop_of [44, 45] (by kernel_rfl) (some 44) (by kernel_rfl) (fun k hk v w hS => by cases hk; exact hS.2 _ rfl) (fun K a w hK hx hl => ?_)
      have e45 : a.tmps.getD 45 undef = .int .i64 1 := (hl 45 (by decide)).2 _ rfl
      exact rop_val (v := .bool true) (by go_simp) (hK _ _ (fun t ht => by cases ht; exact spec_new rfl rfl rfl) (Ext.refl _))
    · refine rop_of [44, 46] (by kernel_rfl) none (by kernel_rfl) (fun k hk => by cases hk) (fun K a w hK hx hl => ?_)
      have e44 : a.tmps.getD 44 undef = .bool true := (hl 44 (by decide)).2 _ rfl
      have e46 : a.tmps.getD 46 undef = .bool true := (hl 46 (by decide)).2 _ rfl
      exact rop_val (v := .bool true) (by go_simp) (hK _ _ (fun t ht => by cases ht; exact spec_new rfl rfl rfl) (Ext.refl _))
    · refine rop_of [47] (by kernel_rfl) none (by kernel_rfl) (fun k hk => by cases hk) (fun K a w hK hx hl => ?_)
      have e47 : a.tmps.getD 47 undef = .bool true := (hl 47 (by decide)).2 _ rfl
      exact rop_val (v := .bool true) (by go_simp) (hK _ _ (fun t ht => by cases ht; exact spec_new rfl rfl rfl) (Ext.refl _))
    · refine rop_of [6, 48] (by kernel_rfl) (some 48) (by kernel_rfl) (fun k hk v w hS => by cases hk; exact hS.2 _ rfl) (fun K a w hK hx hl => ?_)
      have e6 : a.tmps.getD 6 undef = .int .i64 11 := (hl 6 (by decide)).1 _ rfl
      exact rop_val (v := .int .i64 11) (by go_simp) (hK _ _ (fun t ht => by cases ht; exact spec_new rfl rfl rfl) (Ext.refl _))
    · refine rop_of [48, 49] (by kernel_rfl) (some 48) (by kernel_rfl) (fun k hk v w hS => by cases hk; exact hS.2 _ rfl) (fun K a w hK hx hl => ?_)
      have e49 : a.tmps.getD 49 undef = .int .i64 11 := (hl 49 (by decide)).2 _ rfl
      exact rop_val (v := .bool true) (by go_simp) (hK _ _ (fun t ht => by cases ht; exact spec_new rfl rfl rfl) (Ext.refl _))
    · refine rop_of [48, 50] (by kernel_rfl) none (by kernel_rfl) (fun k hk => by cases hk) (fun K a w hK hx hl => ?_)
      have e48 : a.tmps.getD 48 undef = .bool true := (hl 48 (by decide)).2 _ rfl
      have e50 : a.tmps.getD 50 undef = .bool true := (hl 50 (by decide)).2 _ rfl
      exact rop_val (v := .bool true) (by go_simp) (hK _ _ (fun t ht => by cases ht; exact spec_new rfl rfl rfl) (Ext.refl _))
    · refine rop_of [51] (by kernel_rfl) none (by kernel_rfl) (fun k hk => by cases hk) (fun K a w hK hx hl => ?_)
      have e51 : a.tmps.getD 51 undef = .bool true := (hl 51 (by decide)).2 _ rfl
      exact rop_val (v := .bool true) (by go_simp) (hK _ _ (fun t ht => by cases ht; exact spec_new rfl rfl rfl) (Ext.refl _))
    · refine rop_of [52] (by kernel_rfl) (some 52) (by kernel_rfl) (fun k hk v w hS => by cases hk; exact hS.2 _ rfl) (fun K a w hK hx hl => ?_)
      unfold Oper.wp
      rw [show (execOp a.eval _).run Try.prog w = .ok (.enter 70 #[]) w from by go_simp, Oper.upon_enter]
      refine (two_c _).mono ?_
      rintro e w1 ⟨A, n, c, rfl, h, _, hx1⟩
      exact hK _ _ (fun t ht => by cases ht; exact spec_new rfl rfl ⟨_, _, _, rfl, h⟩) hx1
    · refine rop_of [52, 53] (by kernel_rfl) (some 52) (by kernel_rfl) (fun k hk v w hS => by cases hk; exact hS.2 _ rfl) (fun K a w hK hx hl => ?_)
      obtain ⟨A53, n53, c53, e53, h53⟩ := (hl 53 (by decide)).2 _ rfl
      unfold Oper.wp
      rw [show (execOp a.eval _).run Try.prog w = .ok (.enter 45 #[.agg #[.int .i64 2, .slice A53 n53 c53]]) w from by go_simp, Oper.upon_enter]
      refine (pure_c _ _ _ _ twoL _ h53 two_pq).mono ?_
      rintro e w1 ⟨A, n, c, rfl, h, hx1⟩
      rw [FF.out.2.2.2.2.2.1] at h
      exact hK _ _ (fun t ht => by cases ht; exact spec_new rfl rfl ⟨_, _, _, rfl, h⟩) hx1
    · refine rop_of [52] (by kernel_rfl) (some 52) (by kernel_rfl) (fun k hk v w hS => by cases hk; exact hS.2 _ rfl) (fun K a w hK hx hl => ?_)
      exact rop_val2 (v := .slice (some ⟨w.heap.size, 0, none⟩) 1 1) (w' := w.alloc (.cells #[.int .i64 2] 3)) (by go_simp) (hK _ _ (fun t ht => by cases ht; exact spec_new rfl rfl ⟨_, _, _, rfl, intSl_newg #[.int .i64 2] 3 [2] 1 rfl rfl (by decide) (by decide) w _ rfl⟩) ((Ext.refl w).alloc _))
    · refine rop_of [52, 54, 55] (by kernel_rfl) (some 52) (by kernel_rfl) (fun k hk v w hS => by cases hk; exact hS.2 _ rfl) (fun K a w hK hx hl => ?_)
      obtain ⟨A54, n54, c54, e54, h54⟩ := (hl 54 (by decide)).2 _ rfl
      obtain ⟨A55, n55, c55, e55, h55⟩ := (hl 55 (by decide)).2 _ rfl
      unfold Oper.wp
      rw [show (execOp a.eval _).run Try.prog w = .ok (.enter 21 #[.slice A54 n54 c54, .slice A55 n55 c55]) w from by go_simp, Oper.upon_enter]
      refine (same_c _ _ _ [2] _ _ _ [2] _ h54 h55).mono ?_
      rintro e w1 ⟨rfl, hx1⟩
      rw [GG.out.2.2.2.2.2.2]
      exact hK _ _ (fun t ht => by cases ht; exact spec_new rfl rfl rfl) hx1
    · refine rop_of [52, 56] (by kernel_rfl) none (by kernel_rfl) (fun k hk => by cases hk) (fun K a w hK hx hl => ?_)
      have e52 : a.tmps.getD 52 undef = .bool true := (hl 52 (by decide)).2 _ rfl
      have e56 : a.tmps.getD 56 undef = .bool true := (hl 56 (by decide)).2 _ rfl
      exact rop_val (v := .bool true) (by go_simp) (hK _ _ (fun t ht => by cases ht; exact spec_new rfl rfl rfl) (Ext.refl _))
    · refine rop_of [57] (by kernel_rfl) none (by kernel_rfl) (fun k hk => by cases hk) (fun K a w hK hx hl => ?_)
      have e57 : a.tmps.getD 57 undef = .bool true := (hl 57 (by decide)).2 _ rfl
      exact rop_val (v := .bool true) (by go_simp) (hK _ _ (fun t ht => by cases ht; exact spec_new rfl rfl rfl) (Ext.refl _))
    · refine rop_of [58] (by kernel_rfl) (some 58) (by kernel_rfl) (fun k hk v w hS => by cases hk; exact hS.2 _ rfl) (fun K a w hK hx hl => ?_)
      unfold Oper.wp
      rw [show (execOp a.eval _).run Try.prog w = .ok (.enter 70 #[]) w from by go_simp, Oper.upon_enter]
      refine (two_c _).mono ?_
      rintro e w1 ⟨A, n, c, rfl, h, _, hx1⟩
      exact hK _ _ (fun t ht => by cases ht; exact spec_new rfl rfl ⟨_, _, _, rfl, h⟩) hx1
    · refine rop_of [58] (by kernel_rfl) (some 58) (by kernel_rfl) (fun k hk v w hS => by cases hk; exact hS.2 _ rfl) (fun K a w hK hx hl => ?_)
      exact rop_val2 (v := .slice (some ⟨w.heap.size, 0, none⟩) 2 2) (w' := w.alloc (.cells #[.bool true, .bool true] 4)) (by go_simp) (hK _ _ (fun t ht => by cases ht; exact spec_new rfl rfl ⟨_, _, _, rfl, boolSl_newg #[.bool true, .bool true] 4 [true, true] 2 rfl rfl (by decide) w _ rfl⟩) ((Ext.refl w).alloc _))
    · refine rop_of [58, 59, 60] (by kernel_rfl) (some 58) (by kernel_rfl) (fun k hk v w hS => by cases hk; exact hS.2 _ rfl) (fun K a w hK hx hl => ?_)
      obtain ⟨A59, n59, c59, e59, h59⟩ := (hl 59 (by decide)).2 _ rfl
      obtain ⟨A60, n60, c60, e60, h60⟩ := (hl 60 (by decide)).2 _ rfl
      unfold Oper.wp
      rw [show (execOp a.eval _).run Try.prog w = .ok (.enter 38 #[.agg #[.int .i64 2, .slice A59 n59 c59], .slice A60 n60 c60]) w from by go_simp, Oper.upon_enter]
      refine (cHolds_c _ _ _ _ twoL _ _ _ _ _ h59 h60).mono ?_
      rintro e w1 ⟨rfl, hx1⟩
      rw [FF.out.2.2.2.2.2.2.1]
      exact hK _ _ (fun t ht => by cases ht; exact spec_new rfl rfl rfl) hx1
    · refine rop_of [58, 61] (by kernel_rfl) none (by kernel_rfl) (fun k hk => by cases hk) (fun K a w hK hx hl => ?_)
      have e58 : a.tmps.getD 58 undef = .bool true := (hl 58 (by decide)).2 _ rfl
      have e61 : a.tmps.getD 61 undef = .bool true := (hl 61 (by decide)).2 _ rfl
      exact rop_val (v := .bool true) (by go_simp) (hK _ _ (fun t ht => by cases ht; exact spec_new rfl rfl rfl) (Ext.refl _))
    · refine rop_of [62] (by kernel_rfl) none (by kernel_rfl) (fun k hk => by cases hk) (fun K a w hK hx hl => ?_)
      have e62 : a.tmps.getD 62 undef = .bool true := (hl 62 (by decide)).2 _ rfl
      exact rop_val (v := .bool true) (by go_simp) (hK _ _ (fun t ht => by cases ht; exact spec_new rfl rfl rfl) (Ext.refl _))
    · refine rop_of [63] (by kernel_rfl) (some 63) (by kernel_rfl) (fun k hk v w hS => by cases hk; exact hS.2 _ rfl) (fun K a w hK hx hl => ?_)
      unfold Oper.wp
      rw [show (execOp a.eval _).run Try.prog w = .ok (.enter 70 #[]) w from by go_simp, Oper.upon_enter]
      refine (two_c _).mono ?_
      rintro e w1 ⟨A, n, c, rfl, h, _, hx1⟩
      exact hK _ _ (fun t ht => by cases ht; exact spec_new rfl rfl ⟨_, _, _, rfl, h⟩) hx1
    · refine rop_of [63] (by kernel_rfl) (some 63) (by kernel_rfl) (fun k hk v w hS => by cases hk; exact hS.2 _ rfl) (fun K a w hK hx hl => ?_)
      exact rop_val2 (v := .slice (some ⟨w.heap.size, 0, none⟩) 2 2) (w' := w.alloc (.cells #[.bool true, .bool false] 4)) (by go_simp) (hK _ _ (fun t ht => by cases ht; exact spec_new rfl rfl ⟨_, _, _, rfl, boolSl_newg #[.bool true, .bool false] 4 [true, false] 2 rfl rfl (by decide) w _ rfl⟩) ((Ext.refl w).alloc _))
    · refine rop_of [63, 64, 65] (by kernel_rfl) (some 63) (by kernel_rfl) (fun k hk v w hS => by cases hk; exact hS.2 _ rfl) (fun K a w hK hx hl => ?_)
      obtain ⟨A64, n64, c64, e64, h64⟩ := (hl 64 (by decide)).2 _ rfl
      obtain ⟨A65, n65, c65, e65, h65⟩ := (hl 65 (by decide)).2 _ rfl
      unfold Oper.wp
      rw [show (execOp a.eval _).run Try.prog w = .ok (.enter 38 #[.agg #[.int .i64 2, .slice A64 n64 c64], .slice A65 n65 c65]) w from by go_simp, Oper.upon_enter]
      refine (cHolds_c _ _ _ _ twoL _ _ _ _ _ h64 h65).mono ?_
      rintro e w1 ⟨rfl, hx1⟩
      rw [FF.out.2.2.2.2.2.2.2.1]
      exact hK _ _ (fun t ht => by cases ht; exact spec_new rfl rfl rfl) hx1
    · refine rop_of [63, 66] (by kernel_rfl) (some 63) (by kernel_rfl) (fun k hk v w hS => by cases hk; exact hS.2 _ rfl) (fun K a w hK hx hl => ?_)
      have e66 : a.tmps.getD 66 undef = .bool false := (hl 66 (by decide)).2 _ rfl
      exact rop_val (v := .bool true) (by go_simp) (hK _ _ (fun t ht => by cases ht; exact spec_new rfl rfl rfl) (Ext.refl _))
    · refine rop_of [63, 67] (by kernel_rfl) none (by kernel_rfl) (fun k hk => by cases hk) (fun K a w hK hx hl => ?_)
      have e63 : a.tmps.getD 63 undef = .bool true := (hl 63 (by decide)).2 _ rfl
      have e67 : a.tmps.getD 67 undef = .bool true := (hl 67 (by decide)).2 _ rfl
      exact rop_val (v := .bool true) (by go_simp) (hK _ _ (fun t ht => by cases ht; exact spec_new rfl rfl rfl) (Ext.refl _))
    · refine rop_of [68] (by kernel_rfl) none (by kernel_rfl) (fun k hk => by cases hk) (fun K a w hK hx hl => ?_)
      have e68 : a.tmps.getD 68 undef = .bool true := (hl 68 (by decide)).2 _ rfl
      exact rop_val (v := .bool true) (by go_simp) (hK _ _ (fun t ht => by cases ht; exact spec_new rfl rfl rfl) (Ext.refl _))
    · refine rop_of [69] (by kernel_rfl) (some 69) (by kernel_rfl) (fun k hk v w hS => by cases hk; exact hS.2 _ rfl) (fun K a w hK hx hl => ?_)
      unfold Oper.wp
      rw [show (execOp a.eval _).run Try.prog w = .ok (.enter 70 #[]) w from by go_simp, Oper.upon_enter]
      refine (two_c _).mono ?_
      rintro e w1 ⟨A, n, c, rfl, h, _, hx1⟩
      exact hK _ _ (fun t ht => by cases ht; exact spec_new rfl rfl ⟨_, _, _, rfl, h⟩) hx1
    · refine rop_of [69] (by kernel_rfl) (some 69) (by kernel_rfl) (fun k hk v w hS => by cases hk; exact hS.2 _ rfl) (fun K a w hK hx hl => ?_)
      exact rop_val2 (v := .slice (some ⟨w.heap.size, 0, none⟩) 2 2) (w' := w.alloc (.cells #[.bool true, .bool false] 4)) (by go_simp) (hK _ _ (fun t ht => by cases ht; exact spec_new rfl rfl ⟨_, _, _, rfl, boolSl_newg #[.bool true, .bool false] 4 [true, false] 2 rfl rfl (by decide) w _ rfl⟩) ((Ext.refl w).alloc _))
    · refine rop_of [69, 70, 71] (by kernel_rfl) (some 69) (by kernel_rfl) (fun k hk v w hS => by cases hk; exact hS.2 _ rfl) (fun K a w hK hx hl => ?_)
      obtain ⟨A70, n70, c70, e70, h70⟩ := (hl 70 (by decide)).2 _ rfl
      obtain ⟨A71, n71, c71, e71, h71⟩ := (hl 71 (by decide)).2 _ rfl
      unfold Oper.wp
      rw [show (execOp a.eval _).run Try.prog w = .ok (.enter 41 #[.agg #[.int .i64 2, .slice A70 n70 c70], .slice A71 n71 c71]) w from by go_simp, Oper.upon_enter]
      refine (cFirst_c _ _ _ _ twoL _ _ _ _ _ h70 h71).mono ?_
      rintro e w1 ⟨rfl, hx1⟩
      rw [FF.out.2.2.2.2.2.2.2.2]
      exact hK _ _ (fun t ht => by cases ht; exact spec_new rfl rfl rfl) hx1
    · refine rop_of [69, 72] (by kernel_rfl) (some 69) (by kernel_rfl) (fun k hk v w hS => by cases hk; exact hS.2 _ rfl) (fun K a w hK hx hl => ?_)
      have e72 : a.tmps.getD 72 undef = .int .i64 1 := (hl 72 (by decide)).2 _ rfl
      exact rop_val (v := .bool true) (by go_simp) (hK _ _ (fun t ht => by cases ht; exact spec_new rfl rfl rfl) (Ext.refl _))
    · refine rop_of [69, 73] (by kernel_rfl) none (by kernel_rfl) (fun k hk => by cases hk) (fun K a w hK hx hl => ?_)
      have e69 : a.tmps.getD 69 undef = .bool true := (hl 69 (by decide)).2 _ rfl
      have e73 : a.tmps.getD 73 undef = .bool true := (hl 73 (by decide)).2 _ rfl
      exact rop_val (v := .bool true) (by go_simp) (hK _ _ (fun t ht => by cases ht; exact spec_new rfl rfl rfl) (Ext.refl _))
    · refine rop_of [74] (by kernel_rfl) none (by kernel_rfl) (fun k hk => by cases hk) (fun K a w hK hx hl => ?_)
      have e74 : a.tmps.getD 74 undef = .bool true := (hl 74 (by decide)).2 _ rfl
      exact rop_val (v := .bool true) (by go_simp) (hK _ _ (fun t ht => by cases ht; exact spec_new rfl rfl rfl) (Ext.refl _))
    · refine rop_of [75] (by kernel_rfl) (some 75) (by kernel_rfl) (fun k hk v w hS => by cases hk; exact hS.2 _ rfl) (fun K a w hK hx hl => ?_)
      unfold Oper.wp
      rw [show (execOp a.eval _).run Try.prog w = .ok (.enter 70 #[]) w from by go_simp, Oper.upon_enter]
      refine (two_c _).mono ?_
      rintro e w1 ⟨A, n, c, rfl, h, _, hx1⟩
      exact hK _ _ (fun t ht => by cases ht; exact spec_new rfl rfl ⟨_, _, _, rfl, h⟩) hx1
    · refine rop_of [75] (by kernel_rfl) (some 75) (by kernel_rfl) (fun k hk v w hS => by cases hk; exact hS.2 _ rfl) (fun K a w hK hx hl => ?_)
      exact rop_val2 (v := .slice (some ⟨w.heap.size, 0, none⟩) 1 1) (w' := w.alloc (.cells #[.int .i64 2] 3)) (by go_simp) (hK _ _ (fun t ht => by cases ht; exact spec_new rfl rfl ⟨_, _, _, rfl, intSl_newg #[.int .i64 2] 3 [2] 1 rfl rfl (by decide) (by decide) w _ rfl⟩) ((Ext.refl w).alloc _))
    · refine rop_of [75, 76, 77] (by kernel_rfl) (some 75) (by kernel_rfl) (fun k hk v w hS => by cases hk; exact hS.2 _ rfl) (fun K a w hK hx hl => ?_)
      obtain ⟨A76, n76, c76, e76, h76⟩ := (hl 76 (by decide)).2 _ rfl
      obtain ⟨A77, n77, c77, e77, h77⟩ := (hl 77 (by decide)).2 _ rfl
      unfold Oper.wp
      rw [show (execOp a.eval _).run Try.prog w = .ok (.enter 43 #[.agg #[.int .i64 2, .slice A76 n76 c76], .slice A77 n77 c77]) w from by go_simp, Oper.upon_enter]
      refine (cStatus_c _ _ _ _ twoL _ _ _ _ _ h76 h77 (by have := h77.1; simp at this; omega)).mono ?_
      rintro e w1 ⟨rfl, hx1⟩
      rw [GG.out.1]
      exact hK _ _ (fun t ht => by cases ht; exact spec_new rfl rfl rfl) hx1
    · refine rop_of [75, 78] (by kernel_rfl) (some 75) (by kernel_rfl) (fun k hk v w hS => by cases hk; exact hS.2 _ rfl) (fun K a w hK hx hl => ?_)
      have e78 : a.tmps.getD 78 undef = .int .i64 1 := (hl 78 (by decide)).2 _ rfl
      exact rop_val (v := .bool true) (by go_simp) (hK _ _ (fun t ht => by cases ht; exact spec_new rfl rfl rfl) (Ext.refl _))
    · refine rop_of [75, 79] (by kernel_rfl) none (by kernel_rfl) (fun k hk => by cases hk) (fun K a w hK hx hl => ?_)
      have e75 : a.tmps.getD 75 undef = .bool true := (hl 75 (by decide)).2 _ rfl
      have e79 : a.tmps.getD 79 undef = .bool true := (hl 79 (by decide)).2 _ rfl
      exact rop_val (v := .bool true) (by go_simp) (hK _ _ (fun t ht => by cases ht; exact spec_new rfl rfl rfl) (Ext.refl _))
    · refine rop_of [80] (by kernel_rfl) none (by kernel_rfl) (fun k hk => by cases hk) (fun K a w hK hx hl => ?_)
      have e80 : a.tmps.getD 80 undef = .bool true := (hl 80 (by decide)).2 _ rfl
      exact rop_val (v := .bool true) (by go_simp) (hK _ _ (fun t ht => by cases ht; exact spec_new rfl rfl rfl) (Ext.refl _))
    · refine rop_of [81] (by kernel_rfl) (some 81) (by kernel_rfl) (fun k hk v w hS => by cases hk; exact hS.2 _ rfl) (fun K a w hK hx hl => ?_)
      unfold Oper.wp
      rw [show (execOp a.eval _).run Try.prog w = .ok (.enter 70 #[]) w from by go_simp, Oper.upon_enter]
      refine (two_c _).mono ?_
      rintro e w1 ⟨A, n, c, rfl, h, _, hx1⟩
      exact hK _ _ (fun t ht => by cases ht; exact spec_new rfl rfl ⟨_, _, _, rfl, h⟩) hx1
    · refine rop_of [81] (by kernel_rfl) (some 81) (by kernel_rfl) (fun k hk v w hS => by cases hk; exact hS.2 _ rfl) (fun K a w hK hx hl => ?_)
      exact rop_val2 (v := .slice (some ⟨w.heap.size, 0, none⟩) 1 1) (w' := w.alloc (.cells #[.int .i64 1] 3)) (by go_simp) (hK _ _ (fun t ht => by cases ht; exact spec_new rfl rfl ⟨_, _, _, rfl, intSl_newg #[.int .i64 1] 3 [1] 1 rfl rfl (by decide) (by decide) w _ rfl⟩) ((Ext.refl w).alloc _))
    · refine rop_of [81, 82, 83] (by kernel_rfl) (some 81) (by kernel_rfl) (fun k hk v w hS => by cases hk; exact hS.2 _ rfl) (fun K a w hK hx hl => ?_)
      obtain ⟨A82, n82, c82, e82, h82⟩ := (hl 82 (by decide)).2 _ rfl
      obtain ⟨A83, n83, c83, e83, h83⟩ := (hl 83 (by decide)).2 _ rfl
      unfold Oper.wp
      rw [show (execOp a.eval _).run Try.prog w = .ok (.enter 43 #[.agg #[.int .i64 2, .slice A82 n82 c82], .slice A83 n83 c83]) w from by go_simp, Oper.upon_enter]
      refine (cStatus_c _ _ _ _ twoL _ _ _ _ _ h82 h83 (by have := h83.1; simp at this; omega)).mono ?_
      rintro e w1 ⟨rfl, hx1⟩
      rw [GG.out.2.1]
      exact hK _ _ (fun t ht => by cases ht; exact spec_new rfl rfl rfl) hx1
    · refine rop_of [81, 84] (by kernel_rfl) (some 81) (by kernel_rfl) (fun k hk v w hS => by cases hk; exact hS.2 _ rfl) (fun K a w hK hx hl => ?_)
      have e84 : a.tmps.getD 84 undef = .int .i64 0 := (hl 84 (by decide)).2 _ rfl
      exact rop_val (v := .bool true) (by go_simp) (hK _ _ (fun t ht => by cases ht; exact spec_new rfl rfl rfl) (Ext.refl _))
    · refine rop_of [81, 85] (by kernel_rfl) none (by kernel_rfl) (fun k hk => by cases hk) (fun K a w hK hx hl => ?_)
      have e81 : a.tmps.getD 81 undef = .bool true := (hl 81 (by decide)).2 _ rfl
      have e85 : a.tmps.getD 85 undef = .bool true := (hl 85 (by decide)).2 _ rfl
      exact rop_val (v := .bool true) (by go_simp) (hK _ _ (fun t ht => by cases ht; exact spec_new rfl rfl rfl) (Ext.refl _))
    · refine rop_of [86] (by kernel_rfl) none (by kernel_rfl) (fun k hk => by cases hk) (fun K a w hK hx hl => ?_)
      have e86 : a.tmps.getD 86 undef = .bool true := (hl 86 (by decide)).2 _ rfl
      exact rop_val (v := .bool true) (by go_simp) (hK _ _ (fun t ht => by cases ht; exact spec_new rfl rfl rfl) (Ext.refl _))
    · refine rop_of [87] (by kernel_rfl) (some 87) (by kernel_rfl) (fun k hk v w hS => by cases hk; exact hS.2 _ rfl) (fun K a w hK hx hl => ?_)
      unfold Oper.wp
      rw [show (execOp a.eval _).run Try.prog w = .ok (.enter 70 #[]) w from by go_simp, Oper.upon_enter]
      refine (two_c _).mono ?_
      rintro e w1 ⟨A, n, c, rfl, h, _, hx1⟩
      exact hK _ _ (fun t ht => by cases ht; exact spec_new rfl rfl ⟨_, _, _, rfl, h⟩) hx1
    · refine rop_of [87] (by kernel_rfl) (some 87) (by kernel_rfl) (fun k hk v w hS => by cases hk; exact hS.2 _ rfl) (fun K a w hK hx hl => ?_)
      exact rop_val2 (v := .slice (some ⟨w.heap.size, 0, none⟩) 2 2) (w' := w.alloc (.cells #[.int .i64 1, .int .i64 (-2)] 3)) (by go_simp) (hK _ _ (fun t ht => by cases ht; exact spec_new rfl rfl ⟨_, _, _, rfl, intSl_newg #[.int .i64 1, .int .i64 (-2)] 3 [1, -2] 2 rfl rfl (by decide) (by decide) w _ rfl⟩) ((Ext.refl w).alloc _))
    · refine rop_of [87, 88, 89] (by kernel_rfl) (some 87) (by kernel_rfl) (fun k hk v w hS => by cases hk; exact hS.2 _ rfl) (fun K a w hK hx hl => ?_)
      obtain ⟨A88, n88, c88, e88, h88⟩ := (hl 88 (by decide)).2 _ rfl
      obtain ⟨A89, n89, c89, e89, h89⟩ := (hl 89 (by decide)).2 _ rfl
      unfold Oper.wp
      rw [show (execOp a.eval _).run Try.prog w = .ok (.enter 43 #[.agg #[.int .i64 2, .slice A88 n88 c88], .slice A89 n89 c89]) w from by go_simp, Oper.upon_enter]
      refine (cStatus_c _ _ _ _ twoL _ _ _ _ _ h88 h89 (by have := h89.1; simp at this; omega)).mono ?_
      rintro e w1 ⟨rfl, hx1⟩
      rw [GG.out.2.2.1]
      exact hK _ _ (fun t ht => by cases ht; exact spec_new rfl rfl rfl) hx1
    · refine rop_of [87, 90] (by kernel_rfl) (some 87) (by kernel_rfl) (fun k hk v w hS => by cases hk; exact hS.2 _ rfl) (fun K a w hK hx hl => ?_)
      have e90 : a.tmps.getD 90 undef = .int .i64 (-1) := (hl 90 (by decide)).2 _ rfl
      exact rop_val (v := .bool true) (by go_simp) (hK _ _ (fun t ht => by cases ht; exact spec_new rfl rfl rfl) (Ext.refl _))
    · refine rop_of [87, 91] (by kernel_rfl) none (by kernel_rfl) (fun k hk => by cases hk) (fun K a w hK hx hl => ?_)
      have e87 : a.tmps.getD 87 undef = .bool true := (hl 87 (by decide)).2 _ rfl
      have e91 : a.tmps.getD 91 undef = .bool true := (hl 91 (by decide)).2 _ rfl
      exact rop_val (v := .bool true) (by go_simp) (hK _ _ (fun t ht => by cases ht; exact spec_new rfl rfl rfl) (Ext.refl _))
    · refine rop_of [92] (by kernel_rfl) none (by kernel_rfl) (fun k hk => by cases hk) (fun K a w hK hx hl => ?_)
      have e92 : a.tmps.getD 92 undef = .bool true := (hl 92 (by decide)).2 _ rfl
      exact rop_val (v := .bool true) (by go_simp) (hK _ _ (fun t ht => by cases ht; exact spec_new rfl rfl rfl) (Ext.refl _))
    · refine rop_of [93] (by kernel_rfl) (some 93) (by kernel_rfl) (fun k hk v w hS => by cases hk; exact hS.2 _ rfl) (fun K a w hK hx hl => ?_)
      unfold Oper.wp
      rw [show (execOp a.eval _).run Try.prog w = .ok (.enter 70 #[]) w from by go_simp, Oper.upon_enter]
      refine (two_c _).mono ?_
      rintro e w1 ⟨A, n, c, rfl, h, _, hx1⟩
      exact hK _ _ (fun t ht => by cases ht; exact spec_new rfl rfl ⟨_, _, _, rfl, h⟩) hx1
    · refine rop_of [93, 94] (by kernel_rfl) (some 93) (by kernel_rfl) (fun k hk v w hS => by cases hk; exact hS.2 _ rfl) (fun K a w hK hx hl => ?_)
      obtain ⟨A94, n94, c94, e94, h94⟩ := (hl 94 (by decide)).2 _ rfl
      unfold Oper.wp
      rw [show (execOp a.eval _).run Try.prog w = .ok (.enter 72 #[.agg #[.int .i64 2, .slice A94 n94 c94]]) w from by go_simp, Oper.upon_enter]
      refine (size4_c _ _ _ _ twoL _ h94 (by decide)).mono ?_
      rintro e w1 ⟨rfl, hx1⟩
      rw [GG.out.2.2.2.1]
      exact hK _ _ (fun t ht => by cases ht; exact spec_new rfl rfl rfl) hx1
    · refine rop_of [93, 95] (by kernel_rfl) (some 93) (by kernel_rfl) (fun k hk v w hS => by cases hk; exact hS.2 _ rfl) (fun K a w hK hx hl => ?_)
      have e95 : a.tmps.getD 95 undef = .int .i64 4 := (hl 95 (by decide)).2 _ rfl
      exact rop_val (v := .bool true) (by go_simp) (hK _ _ (fun t ht => by cases ht; exact spec_new rfl rfl rfl) (Ext.refl _))
    · refine rop_of [93, 96] (by kernel_rfl) none (by kernel_rfl) (fun k hk => by cases hk) (fun K a w hK hx hl => ?_)
      have e93 : a.tmps.getD 93 undef = .bool true := (hl 93 (by decide)).2 _ rfl
      have e96 : a.tmps.getD 96 undef = .bool true := (hl 96 (by decide)).2 _ rfl
      exact rop_val (v := .bool true) (by go_simp) (hK _ _ (fun t ht => by cases ht; exact spec_new rfl rfl rfl) (Ext.refl _))
    · refine rop_of [97] (by kernel_rfl) none (by kernel_rfl) (fun k hk => by cases hk) (fun K a w hK hx hl => ?_)
      have e97 : a.tmps.getD 97 undef = .bool true := (hl 97 (by decide)).2 _ rfl
      exact rop_val (v := .bool true) (by go_simp) (hK _ _ (fun t ht => by cases ht; exact spec_new rfl rfl rfl) (Ext.refl _))
    · refine rop_of [7, 98] (by kernel_rfl) (some 98) (by kernel_rfl) (fun k hk v w hS => by cases hk; exact hS.2 _ rfl) (fun K a w hK hx hl => ?_)
      have e7 : a.tmps.getD 7 undef = .pointer (some ⟨w7.heap.size, 0, none⟩) := (hl 7 (by decide)).1 _ rfl
      exact rop_val (v := .pointer (some ⟨w7.heap.size, 0, none⟩)) (by go_simp) (hK _ _ (fun t ht => by cases ht; exact spec_new rfl rfl rfl) (Ext.refl _))
    · refine rop_of [98, 99] (by kernel_rfl) (some 98) (by kernel_rfl) (fun k hk v w hS => by cases hk; exact hS.2 _ rfl) (fun K a w hK hx hl => ?_)
      have e99 : a.tmps.getD 99 undef = .pointer (some ⟨w7.heap.size, 0, none⟩) := (hl 99 (by decide)).2 _ rfl
      have q0 := (HBW.out.ext hx).cell 0
      have q1 := (HBW.out.ext hx).cell 1
      exact rop_val (v := .int .i64 3) (by go_simp) (hK _ _ (fun t ht => by cases ht; exact spec_new rfl rfl rfl) (Ext.refl _))
    · refine rop_of [98, 100] (by kernel_rfl) (some 98) (by kernel_rfl) (fun k hk v w hS => by cases hk; exact hS.2 _ rfl) (fun K a w hK hx hl => ?_)
      have e100 : a.tmps.getD 100 undef = .int .i64 3 := (hl 100 (by decide)).2 _ rfl
      exact rop_val (v := .bool true) (by go_simp) (hK _ _ (fun t ht => by cases ht; exact spec_new rfl rfl rfl) (Ext.refl _))
    · refine rop_of [98, 101] (by kernel_rfl) none (by kernel_rfl) (fun k hk => by cases hk) (fun K a w hK hx hl => ?_)
      have e98 : a.tmps.getD 98 undef = .bool true := (hl 98 (by decide)).2 _ rfl
      have e101 : a.tmps.getD 101 undef = .bool true := (hl 101 (by decide)).2 _ rfl
      exact rop_val (v := .bool true) (by go_simp) (hK _ _ (fun t ht => by cases ht; exact spec_new rfl rfl rfl) (Ext.refl _))
    · refine rop_of [102] (by kernel_rfl) none (by kernel_rfl) (fun k hk => by cases hk) (fun K a w hK hx hl => ?_)
      have e102 : a.tmps.getD 102 undef = .bool true := (hl 102 (by decide)).2 _ rfl
      exact rop_val (v := .bool true) (by go_simp) (hK _ _ (fun t ht => by cases ht; exact spec_new rfl rfl rfl) (Ext.refl _))
    · refine rop_of [7, 103] (by kernel_rfl) (some 103) (by kernel_rfl) (fun k hk v w hS => by cases hk; exact hS.2 _ rfl) (fun K a w hK hx hl => ?_)
      have e7 : a.tmps.getD 7 undef = .pointer (some ⟨w7.heap.size, 0, none⟩) := (hl 7 (by decide)).1 _ rfl
      exact rop_val (v := .pointer (some ⟨w7.heap.size, 1, none⟩)) (by go_simp) (hK _ _ (fun t ht => by cases ht; exact spec_new rfl rfl rfl) (Ext.refl _))
    · refine rop_of [103, 104] (by kernel_rfl) (some 103) (by kernel_rfl) (fun k hk v w hS => by cases hk; exact hS.2 _ rfl) (fun K a w hK hx hl => ?_)
      have e104 : a.tmps.getD 104 undef = .pointer (some ⟨w7.heap.size, 1, none⟩) := (hl 104 (by decide)).2 _ rfl
      have q0 := (HBW.out.ext hx).cell 0
      have q1 := (HBW.out.ext hx).cell 1
      exact rop_val (v := .slice A7 3 c7) (by go_simp) (hK _ _ (fun t ht => by cases ht; exact spec_new rfl rfl rfl) (Ext.refl _))
    · refine rop_of [103, 105] (by kernel_rfl) (some 103) (by kernel_rfl) (fun k hk v w hS => by cases hk; exact hS.2 _ rfl) (fun K a w hK hx hl => ?_)
      have e105 : a.tmps.getD 105 undef = .slice A7 3 c7 := (hl 105 (by decide)).2 _ rfl
      exact rop_val (v := .int .i64 3) (by go_simp) (hK _ _ (fun t ht => by cases ht; exact spec_new rfl rfl rfl) (Ext.refl _))
    · refine rop_of [103, 106] (by kernel_rfl) (some 103) (by kernel_rfl) (fun k hk v w hS => by cases hk; exact hS.2 _ rfl) (fun K a w hK hx hl => ?_)
      have e106 : a.tmps.getD 106 undef = .int .i64 3 := (hl 106 (by decide)).2 _ rfl
      exact rop_val (v := .bool true) (by go_simp) (hK _ _ (fun t ht => by cases ht; exact spec_new rfl rfl rfl) (Ext.refl _))
    · refine rop_of [103, 107] (by kernel_rfl) none (by kernel_rfl) (fun k hk => by cases hk) (fun K a w hK hx hl => ?_)
      have e103 : a.tmps.getD 103 undef = .bool true := (hl 103 (by decide)).2 _ rfl
      have e107 : a.tmps.getD 107 undef = .bool true := (hl 107 (by decide)).2 _ rfl
      exact rop_val (v := .bool true) (by go_simp) (hK _ _ (fun t ht => by cases ht; exact spec_new rfl rfl rfl) (Ext.refl _))
    · refine rop_of [108] (by kernel_rfl) none (by kernel_rfl) (fun k hk => by cases hk) (fun K a w hK hx hl => ?_)
      have e108 : a.tmps.getD 108 undef = .bool true := (hl 108 (by decide)).2 _ rfl
      exact rop_val (v := .bool true) (by go_simp) (hK _ _ (fun t ht => by cases ht; exact spec_new rfl rfl rfl) (Ext.refl _))
    · refine rop_of [7, 109] (by kernel_rfl) (some 109) (by kernel_rfl) (fun k hk v w hS => by cases hk; exact hS.2 _ rfl) (fun K a w hK hx hl => ?_)
      have e7 : a.tmps.getD 7 undef = .pointer (some ⟨w7.heap.size, 0, none⟩) := (hl 7 (by decide)).1 _ rfl
      have q0 := (HBW.out.ext hx).cell 0
      have q1 := (HBW.out.ext hx).cell 1
      exact rop_val (v := .agg #[.int .i64 3, .slice A7 3 c7]) (by go_simp) (hK _ _ (fun t ht => by cases ht; exact spec_new rfl rfl rfl) (Ext.refl _))
    · refine rop_of [7, 109] (by kernel_rfl) (some 109) (by kernel_rfl) (fun k hk v w hS => by cases hk; exact hS.2 _ rfl) (fun K a w hK hx hl => ?_)
      have e7 : a.tmps.getD 7 undef = .pointer (some ⟨w7.heap.size, 0, none⟩) := (hl 7 (by decide)).1 _ rfl
      have q0 := (HBW.out.ext hx).cell 0
      have q1 := (HBW.out.ext hx).cell 1
      exact rop_val (v := .agg #[.int .i64 3, .slice A7 3 c7]) (by go_simp) (hK _ _ (fun t ht => by cases ht; exact spec_new rfl rfl rfl) (Ext.refl _))
    · refine rop_of [109, 110, 111] (by kernel_rfl) (some 109) (by kernel_rfl) (fun k hk v w hS => by cases hk; exact hS.2 _ rfl) (fun K a w hK hx hl => ?_)
      have e110 : a.tmps.getD 110 undef = .agg #[.int .i64 3, .slice A7 3 c7] := (hl 110 (by decide)).2 _ rfl
      have e111 : a.tmps.getD 111 undef = .agg #[.int .i64 3, .slice A7 3 c7] := (hl 111 (by decide)).2 _ rfl
      unfold Oper.wp
      rw [show (execOp a.eval _).run Try.prog w = .ok (.enter 73 #[.agg #[.int .i64 3, .slice A7 3 c7], .agg #[.int .i64 3, .slice A7 3 c7]]) w from by go_simp, Oper.upon_enter]
      refine (same4_c 3 _ _ _ (twoL ++ [[-3]]) 3 _ _ _ (twoL ++ [[-3]]) _ (H8.out.ext hx) (H8.out.ext hx)).mono ?_
      rintro e w1 ⟨rfl, hx1⟩
      rw [GG.out.2.2.2.2.1]
      exact hK _ _ (fun t ht => by cases ht; exact spec_new rfl rfl rfl) hx1
    · refine rop_of [109, 112] (by kernel_rfl) none (by kernel_rfl) (fun k hk => by cases hk) (fun K a w hK hx hl => ?_)
      have e109 : a.tmps.getD 109 undef = .bool true := (hl 109 (by decide)).2 _ rfl
      have e112 : a.tmps.getD 112 undef = .bool true := (hl 112 (by decide)).2 _ rfl
      exact rop_val (v := .bool true) (by go_simp) (hK _ _ (fun t ht => by cases ht; exact spec_new rfl rfl rfl) (Ext.refl _))
    · refine rop_of [113] (by kernel_rfl) none (by kernel_rfl) (fun k hk => by cases hk) (fun K a w hK hx hl => ?_)
      have e113 : a.tmps.getD 113 undef = .bool true := (hl 113 (by decide)).2 _ rfl
      exact rop_val (v := .bool true) (by go_simp) (hK _ _ (fun t ht => by cases ht; exact spec_new rfl rfl rfl) (Ext.refl _))
    · refine rop_of [7, 114] (by kernel_rfl) (some 114) (by kernel_rfl) (fun k hk v w hS => by cases hk; exact hS.2 _ rfl) (fun K a w hK hx hl => ?_)
      have e7 : a.tmps.getD 7 undef = .pointer (some ⟨w7.heap.size, 0, none⟩) := (hl 7 (by decide)).1 _ rfl
      have q0 := (HBW.out.ext hx).cell 0
      have q1 := (HBW.out.ext hx).cell 1
      exact rop_val (v := .agg #[.int .i64 3, .slice A7 3 c7]) (by go_simp) (hK _ _ (fun t ht => by cases ht; exact spec_new rfl rfl rfl) (Ext.refl _))
    · refine rop_of [114] (by kernel_rfl) (some 114) (by kernel_rfl) (fun k hk v w hS => by cases hk; exact hS.2 _ rfl) (fun K a w hK hx hl => ?_)
      unfold Oper.wp
      rw [show (execOp a.eval _).run Try.prog w = .ok (.enter 70 #[]) w from by go_simp, Oper.upon_enter]
      refine (two_c _).mono ?_
      rintro e w1 ⟨A, n, c, rfl, h, _, hx1⟩
      exact hK _ _ (fun t ht => by cases ht; exact spec_new rfl rfl ⟨_, _, _, rfl, h⟩) hx1
    · refine rop_of [114, 115, 116] (by kernel_rfl) (some 114) (by kernel_rfl) (fun k hk v w hS => by cases hk; exact hS.2 _ rfl) (fun K a w hK hx hl => ?_)
      have e115 : a.tmps.getD 115 undef = .agg #[.int .i64 3, .slice A7 3 c7] := (hl 115 (by decide)).2 _ rfl
      obtain ⟨A116, n116, c116, e116, h116⟩ := (hl 116 (by decide)).2 _ rfl
      unfold Oper.wp
      rw [show (execOp a.eval _).run Try.prog w = .ok (.enter 73 #[.agg #[.int .i64 3, .slice A7 3 c7], .agg #[.int .i64 2, .slice A116 n116 c116]]) w from by go_simp, Oper.upon_enter]
      refine (same4_c 3 _ _ _ (twoL ++ [[-3]]) 2 _ _ _ twoL _ (H8.out.ext hx) h116).mono ?_
      rintro e w1 ⟨rfl, hx1⟩
      rw [GG.out.2.2.2.2.2.1]
      exact hK _ _ (fun t ht => by cases ht; exact spec_new rfl rfl rfl) hx1
    · refine rop_of [114, 117] (by kernel_rfl) (some 114) (by kernel_rfl) (fun k hk v w hS => by cases hk; exact hS.2 _ rfl) (fun K a w hK hx hl => ?_)
      have e117 : a.tmps.getD 117 undef = .bool false := (hl 117 (by decide)).2 _ rfl
      exact rop_val (v := .bool true) (by go_simp) (hK _ _ (fun t ht => by cases ht; exact spec_new rfl rfl rfl) (Ext.refl _))
    · refine rop_of [114, 118] (by kernel_rfl) none (by kernel_rfl) (fun k hk => by cases hk) (fun K a w hK hx hl => ?_)
      have e114 : a.tmps.getD 114 undef = .bool true := (hl 114 (by decide)).2 _ rfl
      have e118 : a.tmps.getD 118 undef = .bool true := (hl 118 (by decide)).2 _ rfl
      exact rop_val (v := .bool true) (by go_simp) (hK _ _ (fun t ht => by cases ht; exact spec_new rfl rfl rfl) (Ext.refl _))
    · refine rop_of [119] (by kernel_rfl) none (by kernel_rfl) (fun k hk => by cases hk) (fun K a w hK hx hl => ?_)
      have e119 : a.tmps.getD 119 undef = .bool true := (hl 119 (by decide)).2 _ rfl
      exact rop_val (v := .bool true) (by go_simp) (hK _ _ (fun t ht => by cases ht; exact spec_new rfl rfl rfl) (Ext.refl _))
    · intro x hx; cases hx
  · intro a w' hx hdef _ hS
    go_wp2_with fail
    refine bodyPost_ret (results_tmp rfl _ _ _) (by rw [hdef]) ?_
    rw [show a.tmps.getD 0 undef = .bool true from (hS 0).2 _ rfl]
    exact ⟨rfl, HX8.out.trans hx⟩
end Go.Proofs.Ytdhohoabcokdjaa
