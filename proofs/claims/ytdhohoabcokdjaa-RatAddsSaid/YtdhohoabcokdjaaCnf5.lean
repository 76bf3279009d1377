/- Layer 4 (cnf): how often each variable stands there. -/
import Derived.Test.YtdhohoabcokdjaaCnf4
import Derived.Test.YtdhohoabcokdjaaFl
set_option maxRecDepth 100000
namespace Go.Proofs.Ytdhohoabcokdjaa
open Go.RowKit

def pcV (xs : List Int) (v : Int) : Nat := xs.countP fun x => (varV x == v) && decide (0 < x)
def qcV (xs : List Int) (v : Int) : Nat := xs.countP fun x => (varV x == v) && !decide (0 < x)
theorem pcV_snoc (xs : List Int) (x v : Int) : pcV (xs ++ [x]) v = pcV xs v + if varV x = v ∧ 0 < x then 1 else 0 := by
  unfold pcV; rw [List.countP_append]
  by_cases h1 : varV x = v <;> by_cases h2 : 0 < x <;> simp [h1, h2]
theorem qcV_snoc (xs : List Int) (x v : Int) : qcV (xs ++ [x]) v = qcV xs v + if varV x = v ∧ ¬ 0 < x then 1 else 0 := by
  unfold qcV; rw [List.countP_append]
  by_cases h1 : varV x = v <;> by_cases h2 : 0 < x <;> simp [h1, h2]
theorem pcV_pre (xs ys : List Int) (v : Int) : pcV xs v ≤ pcV (xs ++ ys) v := by unfold pcV; rw [List.countP_append]; omega
theorem qcV_pre (xs ys : List Int) (v : Int) : qcV xs v ≤ qcV (xs ++ ys) v := by unfold qcV; rw [List.countP_append]; omega

/-- Block g holds so many of each, up to m. -/
def CntC (w : World) (g m : Nat) (xs : List Int) : Prop :=
  ∃ cs, Blk w g 112 cs ∧ cs.size = m + 1 ∧ ∀ v : Nat, v ≤ m → cs[v]? = some (.complex .f64 (fl (pcV xs v)) (fl (qcV xs v)))
theorem CntC.ext {w w' : World} {g m : Nat} {xs : List Int} (h : CntC w g m xs) (hx : Ext w w') : CntC w' g m xs := let ⟨cs, a, b, c⟩ := h; ⟨cs, a.ext hx, b, c⟩
theorem CntC.cell {w : World} {g m : Nat} {xs : List Int} (h : CntC w g m xs) {v : Nat} (hv : v ≤ m) : w.cell? ⟨g, v, none⟩ = some (.complex .f64 (fl (pcV xs v)) (fl (qcV xs v))) := by
  obtain ⟨cs, a, _, c⟩ := h; rw [a.cell]; exact c v hv
theorem CntC.frozen {w : World} {g m : Nat} {xs : List Int} (h : CntC w g m xs) (v : Nat) : w.frozen? ⟨g, v, none⟩ = false := by obtain ⟨cs, a, _, _⟩ := h; exact a.frozen v
theorem CntC.set_ {w : World} {g m : Nat} {xs : List Int} (h : CntC w g m xs) {x : Int} {v : Nat} (hv : v ≤ m) (hx : varV x = v) :
    CntC (w.setCell ⟨g, v, none⟩ (.complex .f64 (fl (pcV (xs ++ [x]) v)) (fl (qcV (xs ++ [x]) v)))) g m (xs ++ [x]) := by
  obtain ⟨cs, a, b, c⟩ := h
  refine ⟨_, a.set_ v _, by rw [Array.size_setIfInBounds]; exact b, fun u hu => ?_⟩
  by_cases e : u = v
  · subst e
    rw [Array.getElem?_setIfInBounds_self, if_pos (by omega)]
  · rw [Array.getElem?_setIfInBounds_ne (by omega), c u hu]
    have h1 : ¬ varV x = (u : Int) := by omega
    rw [pcV_snoc, qcV_snoc, if_neg (fun h => h1 h.1), if_neg (fun h => h1 h.1)]; rfl

theorem cell_made {m u : Nat} (h : u < m + 1) : (madeCells #[Value.complex .f64 0 0] (m + 1))[u]? = some (.complex .f64 (fl (pcV ([] : List Int) u)) (fl (qcV ([] : List Int) u))) := by
  have e : (madeCells #[Value.complex .f64 0 0] (m + 1)).toList = List.replicate (m + 1) (.complex .f64 0 0) := toList_madeCells_one _ _
  rw [← Array.getElem?_toList, e, List.getElem?_replicate, if_pos (by omega)]; rfl

/-- What counts hands back. -/
def RetCounts (L : List (List Int)) (w : World) (e : Ending) (w' : World) : Prop :=
  ∃ g m c : Nat, e = .returned (.slice (some ⟨g, 0, none⟩) (m + 1) c) ∧ (m : Int) = withV 0 L ∧ m + 1 ≤ c ∧ CntC w' g m L.flatten ∧ Ext w w'
theorem flat_pre {L : List (List Int)} {k j : Nat} {xs : List Int} (h : L[k]? = some xs) : ∃ ys, L.flatten = ((L.take k).flatten ++ xs.take j) ++ ys := by
  refine ⟨xs.drop j ++ (L.drop (k + 1)).flatten, ?_⟩
  have e : L = L.take k ++ xs :: L.drop (k + 1) := by rw [← dropW_cons h, List.take_append_drop]
  calc L.flatten = (L.take k ++ xs :: L.drop (k + 1)).flatten := by rw [← e]
    _ = _ := by
      simp only [List.flatten_append, List.flatten_cons, List.append_assoc]
      rw [← List.append_assoc (xs.take j), List.take_append_drop]
theorem mem_mostV {xs : List Int} {x : Int} (h : x ∈ xs) : varV x ≤ mostV xs := by
  unfold mostV
  have key : ∀ (xs : List Int) (m : Int), m ≤ xs.foldl (fun m x => max m (varV x)) m ∧ ∀ x ∈ xs, varV x ≤ xs.foldl (fun m x => max m (varV x)) m := by
    intro xs
    induction xs with
    | nil => intro m; exact ⟨Int.le_refl _, by simp⟩
    | cons y ys ih =>
      intro m
      obtain ⟨h1, h2⟩ := ih (max m (varV y))
      rw [List.foldl_cons]
      refine ⟨by omega, fun x hx => ?_⟩
      rcases List.mem_cons.1 hx with e | e
      · subst e; omega
      · exact h2 x e
  exact (key xs 0).2 x h
theorem mem_withV {M : List (List Int)} {v : Int} {c : List Int} (h : c ∈ M) : mostV c ≤ withV v M := by
  have key : ∀ (M : List (List Int)) (v : Int), v ≤ withV v M ∧ ∀ c ∈ M, mostV c ≤ withV v M := by
    intro M
    induction M with
    | nil => intro v; exact ⟨Int.le_refl _, by simp⟩
    | cons d M ih =>
      intro v
      obtain ⟨h1, h2⟩ := ih (max v (mostV d))
      have e : withV v (d :: M) = withV (max v (mostV d)) M := rfl
      rw [e]
      refine ⟨by omega, fun x hx => ?_⟩
      rcases List.mem_cons.1 hx with e | e
      · subst e; omega
      · exact h2 x e
  exact (key M v).2 c h

theorem run_store_complex (P : Program) (w : World) (a : Addr) (m : Mode) (k : FloatKind) (x y : Nat) : (store a (.complex k x y) m).run P w = stored P w a (.complex k x y) m := run_store P w a _ m rfl
attribute [local go_sem] run_store_complex

theorem infoC : (Try.prog.info? 112).map (fun i => (i.zero, i.size, i.bytes)) = some (some (.complex .f64 0 0), 1, 16) := by kernel_rfl

set_option maxRecDepth 100000 in
set_option maxHeartbeats 4000000 in
theorem counts_c (v : Int) (A : Option Addr) (n c : Nat) (L : List (List Int)) (w : World) (h : RowsSl w A n L) (hb : ∀ u, pcV L.flatten u ≤ 300 ∧ qcV L.flatten u ≤ 300) :
    Calls Try.prog 78 #[.agg #[.int .i64 v, .slice A n c]] w (RetCounts L w) := by
  have hn := h.len
  have HB := Lib.hid hb
  clear hb
  obtain ⟨i, hi, hz, i1, i2⟩ := info_parts infoC
  have hmk := fun (k : Nat) (hk : k ≤ 200000) (W : World) => run_make_rowN (P := Try.prog) 110 112 i (.complex .f64 0 0) Try.underlying110 hi hz .i64 .i64 k k (Nat.le_refl _) (by rw [i2]; omega) (by omega) W
  rw [i1] at hmk
  have HMK := Lib.hid hmk
  clear hi hz i1 i2 hmk
  go_enter Try.func78, Try.ntmps78
  go_wp2_with fail
  go_loop [3, 14] (fun s i => ∃ (k : Nat) (y : Int), k ≤ n ∧ i = .int .i64 k ∧ s = .int .i64 y ∧ y = withV 0 (L.take k)) (fun _ i => n - (intOf i).toNat)
  case atStart => exact ⟨0, 0, Nat.zero_le _, rfl, rfl, rfl⟩
  case round =>
    obtain ⟨k, y, hk, rfl, rfl, hy⟩ := hrel
    have hyb := withV_le (L.take k) 0
    have hyy : 0 ≤ y ∧ y ≤ 100000 := by rw [hy]; omega
    obtain ⟨hy0, hy1⟩ := hyy
    have HY := Lib.hid hy
    have hX := (Ext.refl w).alloc (Obj.cells #[.int .i64 v, .slice A n c] 48)
    clear hy hyb
    by_cases hlt : k < n
    · obtain ⟨ad, xs, A1, n1, c1, rfl, hyy, hcx, hrow⟩ := (h.ext hX).at_ hlt
      have HT := Lib.hid (take_succ_of hyy.out)
      have HS : Hid (withV 0 (L.take (k + 1)) = max y (mostV xs)) := by unfold Hid; rw [HT.out, withV_snoc, ← HY.out]
      have hmb := mostV_bd xs
      obtain ⟨mm, hmm⟩ : ∃ mm, mostV xs = mm := ⟨_, rfl⟩
      rw [hmm] at hmb
      have HMM := Lib.hid hmm
      obtain ⟨hm1, hm2⟩ := hmb
      have HX := Lib.hid hX
      clear hmm hX
      by_cases hlt2 : y < mm
      all_goals
        go_wp2_with (go_at_call 69; (with_reducible refine (most_c _ _ _ xs _ hrow).mono ?_); rintro e w' ⟨rfl, rfl⟩; rw [HMM.out])
        go_round
        case rel => exact ⟨k + 1, _, by omega, by go_num, rfl, by rw [HS.out, HMM.out]; omega⟩
        case measure => simp [intOf]; omega
    · have hy := HY.out
      rw [take_len_of h.1 hlt] at hy
      obtain ⟨m, hm⟩ := Int.eq_ofNat_of_zero_le hy0
      subst hm
      have hm1 : m + 1 ≤ 200000 := by omega
      have HY2 := Lib.hid hy
      have hmk := HMK.out (m + 1) hm1
      have e1 : ((m + 1 : Nat) : Int) = (m : Int) + 1 := by omega
      rw [e1] at hmk
      have HX := Lib.hid hX
      clear hy hX e1
      go_wp2_with fail
      go_loopw [29] (fun i wr => ∃ k : Nat, k ≤ n ∧ i = .int .i64 k ∧ CntC wr (w.heap.size + 1) m (L.take k).flatten ∧ Ext w wr) (fun i _ => n - (intOf i).toNat)
      case atStart => exact ⟨0, Nat.zero_le _, rfl, ⟨_, Blk.newg2 _ _ (by simp), by rw [size_madeCells], fun u hu => by rw [List.take_zero]; exact cell_made (m := m) (u := u) (by omega)⟩, by (repeat (first | with_reducible exact Ext.refl _ | with_reducible apply Ext.alloc | with_reducible apply Ext.drew | with_reducible apply Ext.drewN | (apply Ext.trans'; assumption)))⟩
      case round =>
        obtain ⟨k, hk, rfl, hc, hx⟩ := hrel
        have HC := Lib.hid hc
        have HX2 := Lib.hid hx
        clear hc hx
        by_cases hlt : k < n
        · obtain ⟨ad, xs, A1, n1, c1, rfl, hyy, hcx0, hrow⟩ := h.at_ hlt
          have hcx := HX2.out.cell hcx0
          have HT := Lib.hid (take_succ_of hyy.out)
          have HROW := Lib.hid hrow
          have hn1 := hrow.len
          clear hrow
          go_wp2_with fail
          go_loopw [35] (fun i wi => ∃ j : Nat, j ≤ n1 ∧ i = .int .i64 j ∧ CntC wi (w.heap.size + 1) m ((L.take k).flatten ++ xs.take j) ∧ Ext w wi) (fun i _ => n1 - (intOf i).toNat)
          case atStart => exact ⟨0, Nat.zero_le _, rfl, by simpa using HC.out, HX2.out⟩
          case round =>
            obtain ⟨j, hj, rfl, hc, hx⟩ := hrel
            have HC2 := Lib.hid hc
            have HX3 := Lib.hid hx
            clear hc hx
            by_cases hlt2 : j < n1
            · obtain ⟨ad1, x, rfl, hx, hcx1, hxa, hxb⟩ := (HROW.out.ext HX3.out).at_ hlt2
              have HTX := Lib.hid (take_succ_of hx.out)
              have hvb := varV_bd x
              have hmem : varV x ≤ (m : Int) := by
                have h1 := mem_mostV (List.mem_of_getElem? hx.out)
                have h2 := mem_withV (v := 0) (List.mem_of_getElem? hyy.out)
                have := HY2.out; omega
              obtain ⟨u, hu⟩ := Int.eq_ofNat_of_zero_le hvb.1
              have hum : u ≤ m := by omega
              have humi : (u : Int) < (m : Int) + 1 := by omega
              have hpq : pcV ((L.take k).flatten ++ xs.take j) u ≤ 300 ∧ qcV ((L.take k).flatten ++ xs.take j) u ≤ 300 := by
                obtain ⟨ys, hys⟩ := flat_pre (j := j) hyy.out
                have hB := HB.out u
                rw [hys] at hB
                have := pcV_pre ((L.take k).flatten ++ xs.take j) ys u
                have := qcV_pre ((L.take k).flatten ++ xs.take j) ys u
                omega
              have hcell := HC2.out.cell hum
              have hfr := HC2.out.frozen u
              have hset := HC2.out.set_ hum hu
              have hsn1 := pcV_snoc ((L.take k).flatten ++ xs.take j) x u
              have hsn2 := qcV_snoc ((L.take k).flatten ++ xs.take j) x u
              obtain ⟨P, hP⟩ : ∃ P, pcV ((L.take k).flatten ++ xs.take j) u = P := ⟨_, rfl⟩
              obtain ⟨Q, hQ⟩ : ∃ Q, qcV ((L.take k).flatten ++ xs.take j) u = Q := ⟨_, rfl⟩
              rw [hP] at hcell hsn1 hpq
              rw [hQ] at hcell hsn2 hpq
              obtain ⟨hp3, hq3⟩ := hpq
              by_cases hx0 : 0 < x
              · have hadd := fun (W : World) => fl_re (P := Try.prog) hp3 hq3 112 W
                rw [if_pos ⟨hu, hx0⟩] at hsn1
                rw [if_neg (fun h => h.2 hx0)] at hsn2
                rw [hsn1, hsn2, Nat.add_zero] at hset
                have hxs := HX3.out.setCell (p := ⟨w.heap.size + 1, u, none⟩) (by simp) (.complex .f64 (fl (P + 1)) (fl Q))
                have HSET := Lib.hid hset
                have HU := Lib.hid hu
                have HXS := Lib.hid hxs
                clear hset hsn1 hsn2 hP hQ hu hvb hmem hxs
                go_wp2_with (go_at_call 67; refine (var_c _ _).mono ?_; rintro e w' ⟨rfl, rfl⟩; rw [HU.out])
                go_roundw
                case rel => exact ⟨j + 1, by omega, by go_num, by rw [HTX.out, ← List.append_assoc]; exact HSET.out, HXS.out⟩
                case measure => simp [intOf]; omega
              · have hadd := fun (W : World) => fl_im (P := Try.prog) hp3 hq3 112 W
                rw [if_neg (fun h => hx0 h.2)] at hsn1
                rw [if_pos ⟨hu, hx0⟩] at hsn2
                rw [hsn1, hsn2, Nat.add_zero] at hset
                have hxs := HX3.out.setCell (p := ⟨w.heap.size + 1, u, none⟩) (by simp) (.complex .f64 (fl P) (fl (Q + 1)))
                have HSET := Lib.hid hset
                have HU := Lib.hid hu
                have HXS := Lib.hid hxs
                clear hset hsn1 hsn2 hP hQ hu hvb hmem hxs
                go_wp2_with (go_at_call 67; refine (var_c _ _).mono ?_; rintro e w' ⟨rfl, rfl⟩; rw [HU.out])
                go_roundw
                case rel => exact ⟨j + 1, by omega, by go_num, by rw [HTX.out, ← List.append_assoc]; exact HSET.out, HXS.out⟩
                case measure => simp [intOf]; omega
            · have hc := HC2.out
              rw [take_len_of HROW.out.1 hlt2] at hc
              have HC4 := Lib.hid hc
              clear hc
              go_wp2_with fail
              go_roundw
              case rel => exact ⟨k + 1, by omega, by go_num, by rw [HT.out, List.flatten_append]; simpa using HC4.out, HX3.out⟩
              case measure => simp [intOf]; omega
        · have hc := HC.out
          rw [take_len_of h.1 hlt] at hc
          have HC4 := Lib.hid hc
          clear hc
          go_wp2_with fail
          go_ret
          exact ⟨_, m, _, rfl, HY2.out, Nat.le_refl _, HC4.out, HX2.out⟩
end Go.Proofs.Ytdhohoabcokdjaa
