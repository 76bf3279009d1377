/- CnfMore answers true. -/
import Derived.Test.YtdhohoabcokdjaaLawCnfHoldsC
import Derived.Laws.World
set_option maxRecDepth 100000
namespace Go.Proofs.Ytdhohoabcokdjaa
open Go.RowKit

theorem IntSl.far {w : World} {A : Option Addr} {n : Nat} {xs : List Int} (h : IntSl w A n xs) {p : Addr} (u : Value) (hp : ∀ x, w.cell? p ≠ some (.int .i64 x)) : IntSl (w.setCell p u) A n xs := by
  refine ⟨h.1, h.2.1, h.2.2.1, fun hn => ?_⟩
  obtain ⟨ad, e, hc⟩ := h.2.2.2 hn
  refine ⟨ad, e, fun j x hj => ?_⟩
  have h1 := hc j x hj
  by_cases hne : p = ad.add j
  · rw [← hne] at h1; exact absurd h1 (hp x)
  · rw [World.cell?_setCell_other (h := hne)]; exact h1

/-! ### a checked formula's literals stand once in a clause -/
theorem dedL_nodup (xs : List Int) : (dedL xs).length = xs.length → xs.Nodup := by
  refine foldl_snoc_ind (P := fun xs => (dedL xs).length = xs.length → xs.Nodup) (fun _ => List.nodup_nil) (fun xs x ih h => ?_) xs
  rw [dedL_snoc] at h
  have hl := dedL_len xs
  cases hh : hasV (dedL xs) x with
  | true => rw [hh, if_pos rfl, List.length_append] at h; simp at h; omega
  | false =>
    rw [hh, if_neg (by simp), List.length_append, List.length_append] at h
    rw [dedL_has, hasV_not] at hh
    rw [List.nodup_append]
    exact ⟨ih (by simp at h; exact h), by simp, fun a ha b hb => by rw [List.mem_singleton.1 hb]; rintro rfl; exact hh ha⟩
theorem check_nodup {c : List Int} {v : Int} (h : cCheckV c v = 0) : c.Nodup ∧ ∀ x ∈ c, varV x ≠ 0 := by
  obtain ⟨hv, hl, hall⟩ := cCheckV_ok h
  have hval : ∀ x ∈ c, varV x ≠ 0 := fun x hx => (checkV_ok (hall x hx)).2.2.2.1
  have hs : seenL c = c := by
    unfold seenL
    rw [List.filter_eq_self]
    intro x hx
    simpa using hval x hx
  refine ⟨dedL_nodup c ?_, hval⟩
  have hl2 := dedL_len c
  unfold cCheckV at h
  rw [if_neg (by omega), if_neg (by omega)] at h
  have hb : badC c v = none := by
    unfold badC
    rw [List.find?_eq_none]
    intro x hx
    simp [hall x hx]
  rw [hb, hs] at h
  by_cases hlt : (dedL c).length < c.length
  · simp [hlt] at h
  · omega
theorem pq_one {c : List Int} (hn : c.Nodup) (hv : ∀ x ∈ c, varV x ≠ 0) (u : Int) : pcV c u ≤ 1 ∧ qcV c u ≤ 1 := by
  have h1 : pcV c u ≤ c.count u := by
    unfold pcV
    rw [List.count_eq_countP]
    refine List.countP_mono_left fun x hx h => ?_
    simp only [Bool.and_eq_true, beq_iff_eq, decide_eq_true_eq] at h
    have := varV_pos (hv x hx)
    have hx' : varV x = x := by unfold varV; rw [if_neg (by omega), if_pos (by omega)]
    simp [← h.1, hx']
  have h2 : qcV c u ≤ c.count (-u) := by
    unfold qcV
    rw [List.count_eq_countP]
    refine List.countP_mono_left fun x hx h => ?_
    simp only [Bool.and_eq_true, beq_iff_eq, Bool.not_eq_true', decide_eq_false_iff_not] at h
    have := varV_pos (hv x hx)
    have hx' : varV x = -x := by unfold varV; rw [if_pos (by omega), if_pos (by omega)]
    simp [← h.1, hx']
  have h3 := List.nodup_iff_count.1 hn u
  have h4 := List.nodup_iff_count.1 hn (-u)
  omega
theorem pq_flat {L : List (List Int)} (h : ∀ c ∈ L, c.Nodup ∧ ∀ x ∈ c, varV x ≠ 0) (u : Int) : pcV L.flatten u ≤ L.length ∧ qcV L.flatten u ≤ L.length := by
  induction L with
  | nil => exact ⟨Nat.le_refl _, Nat.le_refl _⟩
  | cons c L ih =>
    have h1 := pq_one (h c (List.mem_cons_self ..)).1 (h c (List.mem_cons_self ..)).2 u
    have h2 := ih fun d hd => h d (List.mem_cons_of_mem _ hd)
    have e1 : pcV (c :: L).flatten u = pcV c u + pcV L.flatten u := by rw [List.flatten_cons]; unfold pcV; rw [List.countP_append]
    have e2 : qcV (c :: L).flatten u = qcV c u + qcV L.flatten u := by rw [List.flatten_cons]; unfold qcV; rw [List.countP_append]
    rw [e1, e2, List.length_cons]
    omega

/-! ### a pure literal may be made true -/
def absI (y : Int) : Int := if y < -y then -y else y
def setL (m : List Bool) (y : Int) : List Bool := if 1 ≤ absI y ∧ absI y ≤ m.length then m.set (absI y - 1).toNat (decide (0 < y)) else m
theorem setL_len (m : List Bool) (y : Int) : (setL m y).length = m.length := by unfold setL; split <;> simp
theorem pcV_zero {xs : List Int} {v x : Int} (h : pcV xs v = 0) (hx : x ∈ xs) (hv : varV x = v) : ¬ 0 < x := by
  intro hp
  unfold pcV at h
  rw [List.countP_eq_zero] at h
  exact h x hx (by simp [hv, hp])
theorem qcV_zero {xs : List Int} {v x : Int} (h : qcV xs v = 0) (hx : x ∈ xs) (hv : varV x = v) : 0 < x := by
  by_cases hp : 0 < x
  · exact hp
  · unfold qcV at h
    rw [List.countP_eq_zero] at h
    exact absurd (by simp [hv, hp]) (h x hx)
theorem setL_holds {L : List (List Int)} {m : List Bool} {vars y : Int} (hy : y ∈ pureV vars L) (h : ∀ c ∈ L, holdsV c m = true) : ∀ c ∈ L, holdsV c (setL m y) = true := by
  unfold setL
  by_cases hr : 1 ≤ absI y ∧ absI y ≤ m.length
  · rw [if_pos hr]
    obtain ⟨u, _, hu1, hu2, hu3⟩ := pureL_mem hy
    have hab : absI y = u := by unfold absI; rcases hu3 with ⟨e, _⟩ | ⟨e, _⟩ <;> subst e <;> split <;> omega
    rw [hab] at hr ⊢
    have hun : ((u : Int) - 1).toNat = u - 1 := by omega
    rw [hun]
    intro c hc
    obtain ⟨z, hz, hv, hh⟩ := holds_mem (h c hc)
    rw [holdsV, List.any_eq_true]
    refine ⟨z, hz, ?_⟩
    have hzf : z ∈ L.flatten := List.mem_flatten.2 ⟨c, hc, hz⟩
    have hzb := varV_pos hv
    by_cases e : varV z = u
    · have hs : sideV z = decide (0 < y) := by
        rw [side_pos hzb.2.2]
        rcases hu3 with ⟨e1, e2⟩ | ⟨e1, e2⟩
        · rw [decide_eq_true (qcV_zero e2 hzf e), decide_eq_true (by omega)]
        · rw [decide_eq_false (pcV_zero e2 hzf e), decide_eq_false (by omega)]
      unfold litHolds truthV
      rw [e, hun, decide_eq_true (show (u : Int) ≠ 0 by omega), decide_eq_true (show (u : Int) ≤ ((m.set (u - 1) (decide (0 < y))).length : Int) by rw [List.length_set]; omega), hs, List.getD_eq_getElem?_getD, List.getElem?_set_self (by omega)]
      simp
    · unfold litHolds truthV at hh ⊢
      rw [List.length_set]
      have hne : u - 1 ≠ (varV z - 1).toNat := by have := varV_bd z; omega
      rw [List.getD_eq_getElem?_getD] at hh ⊢
      rw [List.getElem?_set_ne hne]
      exact hh
  · rw [if_neg hr]; exact h

/-- A slice of truths of the call's own, as a list. -/
def NB (w : World) (base : Nat) (A : Option Addr) (n : Nat) (m : List Bool) : Prop :=
  m.length = n ∧ (0 < n → ∃ g, A = some ⟨g, 0, none⟩ ∧ base ≤ g ∧ ∃ cur, Blk w g 4 cur ∧ ∀ (j : Nat) (b : Bool), m[j]? = some b → cur[j]? = some (.bool b))
theorem NB.sl {w : World} {base : Nat} {A : Option Addr} {n : Nat} {m : List Bool} (h : NB w base A n m) (hn : n ≤ 9223372036854775807) : BoolSl w A n m := by
  refine ⟨h.1, hn, fun hp => ?_⟩
  obtain ⟨g, e, _, cur, hb, hc⟩ := h.2 hp
  refine ⟨_, e, fun j x hj => ?_⟩
  have e2 : (⟨g, 0, none⟩ : Addr).add j = ⟨g, j, none⟩ := by unfold Addr.add; split <;> simp_all
  rw [e2, hb.cell]; exact hc j x hj
theorem NB.ext {w w' : World} {base : Nat} {A : Option Addr} {n : Nat} {m : List Bool} (h : NB w base A n m) (hx : Ext w w') : NB w' base A n m :=
  ⟨h.1, fun hp => let ⟨g, e, hb, cur, h1, h2⟩ := h.2 hp; ⟨g, e, hb, cur, h1.ext hx, h2⟩⟩
theorem NB.of_own {w : World} {base : Nat} {v : Value} {m : List Bool} (h : OwnB w base v m) : ∃ A c, v = .slice A m.length c ∧ m.length ≤ c ∧ NB w base A m.length m := by
  have h0 : w.ownsRow base 4 1 v m.length (m.map Value.bool) := h
  rcases h.2 with ⟨rfl, h1⟩ | ⟨g, cap, cur, rfl, hb, hgg, hc, _⟩
  · exact ⟨none, 0, by rw [h1], by omega, rfl, fun hp => by omega⟩
  · refine ⟨_, _, rfl, hc, rfl, fun _ => ⟨g, rfl, hb, cur, hgg, fun j b hj => ?_⟩⟩
    have := h0.cells (g := g) rfl j (.bool b) (by rw [List.getElem?_map, hj]; rfl)
    have e2 : (⟨g, 0, none⟩ : Addr).add j = ⟨g, j, none⟩ := by unfold Addr.add; split <;> simp_all
    rw [e2, Blk.cell hgg] at this
    exact this
theorem own_emptyB (w : World) : OwnB (w.alloc (.cells #[] 4)) w.heap.size (.slice (some ⟨w.heap.size, 0, none⟩) 0 0) [] :=
  ⟨rfl, .inr ⟨w.heap.size, 0, #[], rfl, Nat.le_refl _, heap_alloc_new w _, Nat.le_refl _, Nat.zero_le _, rfl, rfl⟩⟩
theorem NB.set {w : World} {base g k n : Nat} {m : List Bool} {b : Bool} (h : NB w base (some ⟨g, 0, none⟩) n m) (hk : k < n) : NB (w.setCell ⟨g, k, none⟩ (.bool b)) base (some ⟨g, 0, none⟩) n (m.set k b) := by
  refine ⟨by rw [List.length_set]; exact h.1, fun hp => ?_⟩
  obtain ⟨g', e, hb, cur, h1, h2⟩ := h.2 hp
  cases e
  refine ⟨g, rfl, hb, _, h1.set_ k _, fun j c hj => ?_⟩
  by_cases e : j = k
  · subst e
    rw [List.getElem?_set_self (by have := h.1; omega)] at hj
    have hjm : j < m.length := by have := h.1; omega
    have hc : cur[j]? = some (.bool m[j]) := h2 j _ (List.getElem?_eq_getElem hjm)
    have hlt := (Array.getElem?_eq_some_iff.1 hc).1
    rw [Array.getElem?_setIfInBounds_self, if_pos hlt]
    cases hj; rfl
  · rw [List.getElem?_set_ne (fun h => e h.symm)] at hj
    rw [Array.getElem?_setIfInBounds_ne (fun h => e h.symm)]
    exact h2 j c hj
theorem appendNB (w0 : World) {ops : Array Oper} {rest : List Oper} {o : Oper} {a : Act} {Q : Exit → Act → World → Prop} (hgd : o.guard = none) (s x : Operand)
    (ho : o.op = .call { callee := .builtin .append, args := #[s, x], argTypes := #[45, 45] })
    (hs : a.eval s = .slice (some ⟨w0.heap.size, 0, none⟩) 0 0) (A : Option Addr) (n c : Nat) (m : List Bool) (hx : a.eval x = .slice A n c) (hy : BoolSl w0 A n m) (hb : n ≤ 10000000000000)
    (h : ∀ A' c' w', NB w' w0.heap.size A' m.length m → Ext w0 w' → wpList Try.prog ops Q rest (a.put o.dst (.slice A' m.length c')) w') : wpList Try.prog ops Q (o :: rest) a (w0.alloc (.cells #[] 4)) := by
  refine appendSB _ hgd s x ho w0.heap.size _ [] hs (own_emptyB w0) A n c m hx (hy.ext ((Ext.refl _).alloc _)) (by simp; omega) (by simp [World.size_alloc]) ?_
  intro v' w7 ho7 hg7 _
  rw [List.nil_append] at ho7
  obtain ⟨A7, c7, rfl, _, hnb⟩ := NB.of_own ho7
  exact h A7 c7 w7 hnb (Ext.grown ((Ext.refl _).alloc _) hg7 (by intro k hk; cases hk; exact Nat.le_refl _))
theorem first_app {L : List (List Int)} {c : List Int} {m : List Bool} (h : firstV (L ++ [c]) m < 0) : firstV L m < 0 := firstV_neg.2 fun d hd => firstV_neg.1 h d (List.mem_append_left _ hd)

set_option maxRecDepth 100000 in
set_option maxHeartbeats 8000000 in
theorem lawCnfMore_c (x : Int) (A : Option Addr) (n c : Nat) (L : List (List Int)) (A1 : Option Addr) (n1 c1 : Nat) (cl : List Int) (A' : Option Addr) (n' c' : Nat) (m : List Bool) (w : World) (hf : (-9223372036854775808 ≤ x ∧ x ≤ 9223372036854775807) ∧ RowsSl w A n L ∧ n ≤ c) (hcl : IntSl w A1 n1 cl) (h' : BoolSl w A' n' m) :
    Calls Try.prog 9 #[.agg #[.int .i64 x, .slice A n c], .slice A1 n1 c1, .slice A' n' c'] w fun e w' => e = .returned (.bool true) ∧ Ext w w' := by
  obtain ⟨⟨hx1, hx2⟩, h, hnc⟩ := hf
  cases hfew : fewV L with
  | false =>
    have HF := Lib.hid hfew
    clear hfew
    go_enter Try.func9, Try.ntmps9
    go_wp2_with fail
    refine (few04_c _ _ _ _ L _ (h.ext ((Ext.refl _).alloc _))).mono ?_
    rintro e w1 ⟨rfl, hx1⟩
    rw [HF.out]
    go_wp2_with fail
    refine (law04awake_c _).mono ?_
    rintro e w2 ⟨rfl, hx2⟩
    go_wp2_with fail
    go_ret
    exact ⟨rfl, by (repeat (first | with_reducible exact Ext.refl _ | with_reducible apply Ext.alloc | with_reducible apply Ext.drew | with_reducible apply Ext.drewN | (apply Ext.trans'; assumption)))⟩
  | true =>
    have hfm := few_most hfew
    have HF := Lib.hid hfew
    have HFM := Lib.hid hfm
    clear hfew hfm
    by_cases h50 : 50 < n1
    · go_enter Try.func9, Try.ntmps9
      go_wp2_with fail
      refine (few04_c _ _ _ _ L _ (h.ext ((Ext.refl _).alloc _))).mono ?_
      rintro e w1 ⟨rfl, hx1⟩
      rw [HF.out]
      go_wp2_with fail
      refine (law04awake_c _).mono ?_
      rintro e w2 ⟨rfl, hx2⟩
      go_wp2_with fail
      go_ret
      exact ⟨rfl, by (repeat (first | with_reducible exact Ext.refl _ | with_reducible apply Ext.alloc | with_reducible apply Ext.drew | with_reducible apply Ext.drewN | (apply Ext.trans'; assumption)))⟩
    · by_cases h300 : 300 < n'
      · go_enter Try.func9, Try.ntmps9
        go_wp2_with fail
        refine (few04_c _ _ _ _ L _ (h.ext ((Ext.refl _).alloc _))).mono ?_
        rintro e w1 ⟨rfl, hx1⟩
        rw [HF.out]
        go_wp2_with fail
        refine (law04awake_c _).mono ?_
        rintro e w2 ⟨rfl, hx2⟩
        go_wp2_with fail
        go_ret
        exact ⟨rfl, by (repeat (first | with_reducible exact Ext.refl _ | with_reducible apply Ext.alloc | with_reducible apply Ext.drew | with_reducible apply Ext.drewN | (apply Ext.trans'; assumption)))⟩
      · have HB0 := Lib.hid (Blk.new w 48 #[.int .i64 x, .slice A n c])
        have hn200 : n ≤ 200 := by have := HFM.out.1; have := h.1; omega
        have HLn := Lib.hid h.1
        have HCn := Lib.hid hcl.1
        go_enter Try.func9, Try.ntmps9
        go_wp2_with fail
        refine (few04_c _ _ _ _ L _ (h.ext ((Ext.refl _).alloc _))).mono ?_
        rintro e w1 ⟨rfl, hx1⟩
        rw [HF.out]
        have hb1 := HB0.out.ext hx1
        have y0 := hb1.cell 0
        have y1 := hb1.cell 1
        have HX1 : Hid (Ext w w1) := ((Ext.refl _).alloc _).trans hx1
        have HB1 := Lib.hid hb1
        clear hx1 hb1
        go_wp2_with fail
        refine (cnfCheck_c _ _ _ _ L _ (h.ext HX1.out)).mono ?_
        rintro e w2 ⟨rfl, hx2⟩
        have hb2 := HB1.out.ext hx2
        have HX2 := Lib.hid (HX1.out.trans hx2)
        have HB2 := Lib.hid hb2
        have z0 := hb2.cell 0
        have z1 := hb2.cell 1
        clear hx2 hb2 y0 y1
        by_cases hck : (fCheckV x L).2 = 0
        · have hok := fCheckV_ok hck
          have hxb : 0 ≤ x ∧ x ≤ 100000 := hok.1
          obtain ⟨hxb0, hxb1⟩ := hxb
          have HPQ : Hid (∀ u, pcV L.flatten u ≤ 300 ∧ qcV L.flatten u ≤ 300) := by
            intro u
            have := pq_flat (fun d hd => check_nodup (hok.2 d hd).1) u
            have := HLn.out
            omega
          have HCK := Lib.hid hck
          rw [HCK.out]
          clear hck hok
          go_wp2_with fail
          have hrow1 : RowsSl ((w2.alloc (.cells #[.slice A1 n1 c1] 22))) (some ⟨w2.heap.size, 0, none⟩) 1 [cl] := rowsSl_newg (w := w2) [.slice A1 n1 c1] _ [cl] 1 rfl (by decide) rfl (RowVals.cons (hcl.ext HX2.out) (RowVals.nil _))
          refine (with_c x _ _ _ L _ _ _ [cl] _ (h.ext (HX2.out.trans ((Ext.refl _).alloc _))) hrow1 (by omega) (by omega) (by omega) (by decide) ?_).mono ?_
          · intro xs hxs
            rcases List.mem_append.1 hxs with hxs | hxs
            · have := HFM.out.2.2 xs hxs; omega
            · rw [List.mem_singleton.1 hxs]; have := HCn.out; omega
          rintro e w3 ⟨A3, n3, c3, rfl, h3, hn3c, hx3⟩
          have hn3 : n3 = n + 1 := by have e := h3.1; rw [List.length_append, List.length_singleton, HLn.out] at e; exact e.symm
          subst hn3
          have hwl := withV_le [cl] x
          obtain ⟨g0, hg0⟩ : ∃ g0, withV x [cl] = g0 := ⟨_, rfl⟩
          rw [hg0] at hwl
          obtain ⟨hwl1, hwl2⟩ := hwl
          have HG0 := Lib.hid hg0
          rw [HG0.out]
          have hx23 : Ext w2 w3 := ((Ext.refl _).alloc _).trans hx3
          have hb3 := (HB2.out.ext hx23).alloc (Obj.cells #[.int .i64 g0, .slice A3 (n + 1) c3] 48)
          have HX3 : Hid (Ext w (w3.alloc (Obj.cells #[.int .i64 g0, .slice A3 (n + 1) c3] 48))) := (HX2.out.trans hx23).alloc _
          have HG3 := Lib.hid (Blk.new w3 48 #[.int .i64 g0, .slice A3 (n + 1) c3])
          have H3 := Lib.hid (h3.ext ((Ext.refl w3).alloc (Obj.cells #[.int .i64 g0, .slice A3 (n + 1) c3] 48)))
          have HB3 := Lib.hid hb3
          clear hx3 hx23 h3 hrow1 hb3 hg0 z0 z1
          go_wp2_with fail
          refine (cFirst_c _ _ _ _ (L ++ [cl]) _ _ _ m _ H3.out (h'.ext HX3.out)).mono ?_
          rintro e w4 ⟨rfl, hx4⟩
          have HX4 := Lib.hid (HX3.out.trans hx4)
          have HG4 := Lib.hid (HG3.out.ext hx4)
          have HB4 := Lib.hid (HB3.out.ext hx4)
          clear hx4
          obtain ⟨q1, hq1⟩ : ∃ q, firstV (L ++ [cl]) m = q := ⟨_, rfl⟩
          have HQ1 := Lib.hid hq1
          rw [HQ1.out]
          clear hq1
          have y0 := HB4.out.cell 0
          have y1 := HB4.out.cell 1
          have u0 := HG4.out.cell 0
          have u1 := HG4.out.cell 1
          have HN' := Lib.hid h'.1
          have HN'' := Lib.hid h'.2.1
          by_cases hneg : q1 < 0
          · obtain ⟨q2, hq2⟩ : ∃ q, firstV L m = q := ⟨_, rfl⟩
            have hneg2 : q2 < 0 := by rw [← hq2]; exact first_app (c := cl) (by rw [HQ1.out]; exact hneg)
            have HQ2 := Lib.hid hq2
            clear hq2
            go_wp2_with fail
            refine (cFirst_c _ _ _ _ L _ _ _ m _ (h.ext HX4.out) (h'.ext HX4.out)).mono ?_
            rintro e w5 ⟨rfl, hx5⟩
            rw [HQ2.out]
            have HX5 := Lib.hid (HX4.out.trans hx5)
            have HG5 := Lib.hid (HG4.out.ext hx5)
            have HB5 := Lib.hid (HB4.out.ext hx5)
            clear hx5 y0 y1 u0 u1
            have y0 := HB5.out.cell 0
            have y1 := HB5.out.cell 1
            have u0 := HG5.out.cell 0
            have u1 := HG5.out.cell 1
            go_wp2_with fail
            refine (cHolds_c _ _ _ _ L _ _ _ m _ (h.ext HX5.out) (h'.ext HX5.out)).mono ?_
            rintro e w6 ⟨rfl, hx6⟩
            have HX6 := Lib.hid (HX5.out.trans hx6)
            have HB6 := Lib.hid (HB5.out.ext hx6)
            clear hx6 y0 y1 u0 u1
            have y0 := HB6.out.cell 0
            have y1 := HB6.out.cell 1
            cases hH : holdsF x L m with
            | false =>
              go_wp2_with fail
              refine (law04awake_c _).mono ?_
              rintro e w7 ⟨rfl, hx7⟩
              go_wp2_with fail
              go_ret
              exact ⟨rfl, HX6.out.trans hx7⟩
            | true =>
              have HH := Lib.hid hH
              clear hH
              have hHm := firstV_neg.1 (show firstV L m < 0 by have e := HH.out; simp [holdsF] at e; exact e.2)
              have hHl : (m.length : Int) = x := by have e := HH.out; simp [holdsF] at e; exact e.1
              have HHM := Lib.hid hHm
              have HHL := Lib.hid hHl
              clear hHm hHl
              have hn300 : n' ≤ 10000000000000 := by omega
              have hm6 := h'.ext HX6.out
              go_wp2_with (at_builtin; refine appendNB w6 rfl (.tmp 72) (.tmp 73) rfl rfl _ _ _ m rfl hm6 hn300 ?_; intro A7 c7 w7 hnb7 hx7; have y0 := (HB6.out.ext hx7).cell 0; have y1 := (HB6.out.ext hx7).cell 1; have HNB7 := Lib.hid hnb7; have HX7 := Lib.hid hx7; clear hnb7 hx7)
              have HB7 := Lib.hid (HB6.out.ext HX7.out)
              refine (pure_c _ _ _ _ L _ (h.ext (HX6.out.trans HX7.out)) HPQ.out).mono ?_
              rintro e w8 ⟨A8, n8, c8, rfl, h8, hx8⟩
              have HB8 := Lib.hid (HB7.out.ext hx8)
              have HX8 := Lib.hid (HX7.out.trans hx8)
              have HNB8 := Lib.hid (HNB7.out.ext hx8)
              have H8 := Lib.hid h8
              clear h8 hx8 y0 y1
              have hn8 := H8.out.1
              have hn8' := H8.out.2.1
              have HL8 := Lib.hid hn8
              clear hn8
              go_wp2_with fail
              go_loopw [12] (fun i wr => ∃ (j : Nat) (mm : List Bool), j ≤ n8 ∧ i = .int .i64 j ∧ NB wr w6.heap.size A7 m.length mm ∧ (∀ d ∈ L, holdsV d mm = true) ∧ IntSl wr A8 n8 (pureV x L) ∧ Ext w6 wr) (fun i _ => n8 - (intOf i).toNat)
              case atStart => exact ⟨0, m, Nat.zero_le _, rfl, HNB8.out, HHM.out, H8.out, HX8.out⟩
              case round =>
                obtain ⟨j, mm, hj, rfl, hnb, hmm, hp, hxr⟩ := hrel
                by_cases hlt : j < n8
                · obtain ⟨ad, y, rfl, hy, hcy, hy1, hy2⟩ := hp.at_ hlt
                  have hym : y ∈ pureV x L := List.mem_of_getElem? hy.out
                  obtain ⟨u, hu0, hu1, hu2, hu3⟩ := pureL_mem hym
                  have hset := setL_holds hym hmm
                  obtain ⟨k, rfl⟩ : ∃ k, u = k + 1 := ⟨u - 1, by omega⟩
                  have hk5 : (k : Int) + 1 ≤ 100000 := by omega
                  have b0 : (0 : Int) ≤ (j : Int) := by omega
                  have b1 : (j : Int) < (n8 : Int) := by omega
                  have HSET := Lib.hid hset
                  have HNB := Lib.hid hnb
                  have HMM := Lib.hid hmm
                  have HP := Lib.hid hp
                  have HXR := Lib.hid hxr
                  clear hset hnb hmm hp hxr hym hu0 hu1 hu2 hy
                  obtain ⟨v, hv⟩ : ∃ v : Int, v = (k : Int) + 1 := ⟨_, rfl⟩
                  have hs : v = y ∨ y = -v := by omega
                  clear hu3
                  have habs : absI y = v := by unfold absI; split <;> omega
                  have hv1 : 1 ≤ v := by omega
                  have hv5 : v ≤ 100000 := by omega
                  have hvk : v - 1 = (k : Int) := by omega
                  have HV := Lib.hid hv
                  clear hv hk5
                  rcases hs with rfl | rfl
                  · by_cases hun : v ≤ (m.length : Int)
                    · obtain ⟨g, rfl, hgb, cur, hblk, hcur⟩ := HNB.out.2 (by have := HV.out; omega)
                      have hkm : k < mm.length := by have := HV.out; rw [HNB.out.1]; omega
                      have hck : wr.cell? ⟨g, k, none⟩ = some (.bool mm[k]) := by rw [hblk.cell]; exact hcur k _ (List.getElem?_eq_getElem hkm)
                      have hfr := hblk.frozen k
                      have b2 : (k : Int) < (m.length : Int) := by omega
                      have HBLK := Lib.hid hblk
                      have HCUR := Lib.hid hcur
                      have HAB := Lib.hid habs
                      clear hblk hcur habs
                      go_wp2_with fail
                      go_quiet (fail)
                      go_wp2_with fail
                      go_roundw
                      case rel =>
                        have hsl : setL mm v = mm.set k (decide (0 < v)) := by
                          unfold setL
                          rw [HAB.out, if_pos ⟨by omega, by rw [HNB.out.1]; omega⟩]
                          rw [show (v - 1).toNat = k by have := HV.out; omega]
                          try rw [show decide (0 < -v) = decide (v < 0) from decide_eq_decide.2 (by omega)]
                        have e3 : ((⟨g, 0, none⟩ : Addr).add k) = ⟨g, k, none⟩ := by unfold Addr.add; split <;> simp_all
                        refine ⟨j + 1, mm.set k (decide (0 < v)), by omega, by go_num, ?_, by rw [← hsl]; exact HSET.out, ?_, ?_⟩
                        · have hkk : k < m.length := by omega
                          exact NB.set (k := k) (HNB.out.ext ((Ext.refl _).drewN _)) hkk
                        · exact IntSl.far (HP.out.ext ((Ext.refl _).drewN _)) _ (fun x' => by rw [World.cell?_drewN, hck]; simp)
                        · exact (HXR.out.drewN _).setCell hgb _
                      case measure => simp [intOf]; omega
                    · have HAB := Lib.hid habs
                      clear habs
                      go_wp2_with fail
                      go_quiet (fail)
                      go_wp2_with fail
                      go_roundw
                      case rel => exact ⟨j + 1, mm, by omega, by go_num, HNB.out.ext ((Ext.refl _).drewN _), HMM.out, HP.out.ext ((Ext.refl _).drewN _), HXR.out.drewN _⟩
                      case measure => simp [intOf]; omega
                  · by_cases hun : v ≤ (m.length : Int)
                    · obtain ⟨g, rfl, hgb, cur, hblk, hcur⟩ := HNB.out.2 (by have := HV.out; omega)
                      have hkm : k < mm.length := by have := HV.out; rw [HNB.out.1]; omega
                      have hck : wr.cell? ⟨g, k, none⟩ = some (.bool mm[k]) := by rw [hblk.cell]; exact hcur k _ (List.getElem?_eq_getElem hkm)
                      have hfr := hblk.frozen k
                      have b2 : (k : Int) < (m.length : Int) := by omega
                      have HBLK := Lib.hid hblk
                      have HCUR := Lib.hid hcur
                      have HAB := Lib.hid habs
                      clear hblk hcur habs
                      go_wp2_with fail
                      go_quiet (fail)
                      go_wp2_with fail
                      go_roundw
                      case rel =>
                        have hsl : setL mm (-v) = mm.set k (decide (v < 0)) := by
                          unfold setL
                          rw [HAB.out, if_pos ⟨by omega, by rw [HNB.out.1]; omega⟩]
                          rw [show (v - 1).toNat = k by have := HV.out; omega]
                          try rw [show decide (0 < -v) = decide (v < 0) from decide_eq_decide.2 (by omega)]
                        have e3 : ((⟨g, 0, none⟩ : Addr).add k) = ⟨g, k, none⟩ := by unfold Addr.add; split <;> simp_all
                        refine ⟨j + 1, mm.set k (decide (v < 0)), by omega, by go_num, ?_, by rw [← hsl]; exact HSET.out, ?_, ?_⟩
                        · have hkk : k < m.length := by omega
                          exact NB.set (k := k) (HNB.out.ext ((Ext.refl _).drewN _)) hkk
                        · exact IntSl.far (HP.out.ext ((Ext.refl _).drewN _)) _ (fun x' => by rw [World.cell?_drewN, hck]; simp)
                        · exact (HXR.out.drewN _).setCell hgb _
                      case measure => simp [intOf]; omega
                    · have HAB := Lib.hid habs
                      clear habs
                      go_wp2_with fail
                      go_quiet (fail)
                      go_wp2_with fail
                      go_roundw
                      case rel => exact ⟨j + 1, mm, by omega, by go_num, HNB.out.ext ((Ext.refl _).drewN _), HMM.out, HP.out.ext ((Ext.refl _).drewN _), HXR.out.drewN _⟩
                      case measure => simp [intOf]; omega
                · have hjn : j = n8 := by omega
                  subst hjn
                  have HNB := Lib.hid hnb
                  have HMM := Lib.hid hmm
                  have HP := Lib.hid hp
                  have HXR := Lib.hid hxr
                  clear hnb hmm hp hxr
                  have y0 := (HB6.out.ext HXR.out).cell 0
                  have y1 := (HB6.out.ext HXR.out).cell 1
                  have hms := HNB.out.sl (by have := HN'.out; omega)
                  have HHF : Hid (holdsF x L mm = true) := by unfold Hid holdsF; rw [HNB.out.1, decide_eq_true HHL.out, decide_eq_true (firstV_neg.2 HMM.out)]; rfl
                  go_wp2_with fail
                  refine (cHolds_c _ _ _ _ L _ _ _ mm _ (h.ext (HX6.out.trans HXR.out)) hms).mono ?_
                  rintro e w9 ⟨rfl, hx9⟩
                  rw [HHF.out]
                  go_wp2_with fail
                  refine (law04awake_c _).mono ?_
                  rintro e w10 ⟨rfl, hx10⟩
                  go_wp2_with fail
                  go_ret
                  exact ⟨rfl, (HX6.out.trans HXR.out).trans (hx9.trans hx10)⟩
          · go_wp2_with fail
            refine (cHolds_c _ _ _ _ L _ _ _ m _ (h.ext HX4.out) (h'.ext HX4.out)).mono ?_
            rintro e w6 ⟨rfl, hx6⟩
            have HX6 := Lib.hid (HX4.out.trans hx6)
            have HB6 := Lib.hid (HB4.out.ext hx6)
            clear hx6 y0 y1 u0 u1
            have y0 := HB6.out.cell 0
            have y1 := HB6.out.cell 1
            cases hH : holdsF x L m with
            | false =>
              go_wp2_with fail
              refine (law04awake_c _).mono ?_
              rintro e w7 ⟨rfl, hx7⟩
              go_wp2_with fail
              go_ret
              exact ⟨rfl, HX6.out.trans hx7⟩
            | true =>
              have HH := Lib.hid hH
              clear hH
              have hHm := firstV_neg.1 (show firstV L m < 0 by have e := HH.out; simp [holdsF] at e; exact e.2)
              have hHl : (m.length : Int) = x := by have e := HH.out; simp [holdsF] at e; exact e.1
              have HHM := Lib.hid hHm
              have HHL := Lib.hid hHl
              clear hHm hHl
              have hn300 : n' ≤ 10000000000000 := by omega
              have hm6 := h'.ext HX6.out
              go_wp2_with (at_builtin; refine appendNB w6 rfl (.tmp 72) (.tmp 73) rfl rfl _ _ _ m rfl hm6 hn300 ?_; intro A7 c7 w7 hnb7 hx7; have y0 := (HB6.out.ext hx7).cell 0; have y1 := (HB6.out.ext hx7).cell 1; have HNB7 := Lib.hid hnb7; have HX7 := Lib.hid hx7; clear hnb7 hx7)
              have HB7 := Lib.hid (HB6.out.ext HX7.out)
              refine (pure_c _ _ _ _ L _ (h.ext (HX6.out.trans HX7.out)) HPQ.out).mono ?_
              rintro e w8 ⟨A8, n8, c8, rfl, h8, hx8⟩
              have HB8 := Lib.hid (HB7.out.ext hx8)
              have HX8 := Lib.hid (HX7.out.trans hx8)
              have HNB8 := Lib.hid (HNB7.out.ext hx8)
              have H8 := Lib.hid h8
              clear h8 hx8 y0 y1
              have hn8 := H8.out.1
              have hn8' := H8.out.2.1
              have HL8 := Lib.hid hn8
              clear hn8
              go_wp2_with fail
              go_loopw [12] (fun i wr => ∃ (j : Nat) (mm : List Bool), j ≤ n8 ∧ i = .int .i64 j ∧ NB wr w6.heap.size A7 m.length mm ∧ (∀ d ∈ L, holdsV d mm = true) ∧ IntSl wr A8 n8 (pureV x L) ∧ Ext w6 wr) (fun i _ => n8 - (intOf i).toNat)
              case atStart => exact ⟨0, m, Nat.zero_le _, rfl, HNB8.out, HHM.out, H8.out, HX8.out⟩
              case round =>
                obtain ⟨j, mm, hj, rfl, hnb, hmm, hp, hxr⟩ := hrel
                by_cases hlt : j < n8
                · obtain ⟨ad, y, rfl, hy, hcy, hy1, hy2⟩ := hp.at_ hlt
                  have hym : y ∈ pureV x L := List.mem_of_getElem? hy.out
                  obtain ⟨u, hu0, hu1, hu2, hu3⟩ := pureL_mem hym
                  have hset := setL_holds hym hmm
                  obtain ⟨k, rfl⟩ : ∃ k, u = k + 1 := ⟨u - 1, by omega⟩
                  have hk5 : (k : Int) + 1 ≤ 100000 := by omega
                  have b0 : (0 : Int) ≤ (j : Int) := by omega
                  have b1 : (j : Int) < (n8 : Int) := by omega
                  have HSET := Lib.hid hset
                  have HNB := Lib.hid hnb
                  have HMM := Lib.hid hmm
                  have HP := Lib.hid hp
                  have HXR := Lib.hid hxr
                  clear hset hnb hmm hp hxr hym hu0 hu1 hu2 hy
                  obtain ⟨v, hv⟩ : ∃ v : Int, v = (k : Int) + 1 := ⟨_, rfl⟩
                  have hs : v = y ∨ y = -v := by omega
                  clear hu3
                  have habs : absI y = v := by unfold absI; split <;> omega
                  have hv1 : 1 ≤ v := by omega
                  have hv5 : v ≤ 100000 := by omega
                  have hvk : v - 1 = (k : Int) := by omega
                  have HV := Lib.hid hv
                  clear hv hk5
                  rcases hs with rfl | rfl
                  · by_cases hun : v ≤ (m.length : Int)
                    · obtain ⟨g, rfl, hgb, cur, hblk, hcur⟩ := HNB.out.2 (by have := HV.out; omega)
                      have hkm : k < mm.length := by have := HV.out; rw [HNB.out.1]; omega
                      have hck : wr.cell? ⟨g, k, none⟩ = some (.bool mm[k]) := by rw [hblk.cell]; exact hcur k _ (List.getElem?_eq_getElem hkm)
                      have hfr := hblk.frozen k
                      have b2 : (k : Int) < (m.length : Int) := by omega
                      have HBLK := Lib.hid hblk
                      have HCUR := Lib.hid hcur
                      have HAB := Lib.hid habs
                      clear hblk hcur habs
                      go_wp2_with fail
                      go_quiet (fail)
                      go_wp2_with fail
                      go_roundw
                      case rel =>
                        have hsl : setL mm v = mm.set k (decide (0 < v)) := by
                          unfold setL
                          rw [HAB.out, if_pos ⟨by omega, by rw [HNB.out.1]; omega⟩]
                          rw [show (v - 1).toNat = k by have := HV.out; omega]
                          try rw [show decide (0 < -v) = decide (v < 0) from decide_eq_decide.2 (by omega)]
                        have e3 : ((⟨g, 0, none⟩ : Addr).add k) = ⟨g, k, none⟩ := by unfold Addr.add; split <;> simp_all
                        refine ⟨j + 1, mm.set k (decide (0 < v)), by omega, by go_num, ?_, by rw [← hsl]; exact HSET.out, ?_, ?_⟩
                        · have hkk : k < m.length := by omega
                          exact NB.set (k := k) (HNB.out.ext ((Ext.refl _).drewN _)) hkk
                        · exact IntSl.far (HP.out.ext ((Ext.refl _).drewN _)) _ (fun x' => by rw [World.cell?_drewN, hck]; simp)
                        · exact (HXR.out.drewN _).setCell hgb _
                      case measure => simp [intOf]; omega
                    · have HAB := Lib.hid habs
                      clear habs
                      go_wp2_with fail
                      go_quiet (fail)
                      go_wp2_with fail
                      go_roundw
                      case rel => exact ⟨j + 1, mm, by omega, by go_num, HNB.out.ext ((Ext.refl _).drewN _), HMM.out, HP.out.ext ((Ext.refl _).drewN _), HXR.out.drewN _⟩
                      case measure => simp [intOf]; omega
                  · by_cases hun : v ≤ (m.length : Int)
                    · obtain ⟨g, rfl, hgb, cur, hblk, hcur⟩ := HNB.out.2 (by have := HV.out; omega)
                      have hkm : k < mm.length := by have := HV.out; rw [HNB.out.1]; omega
                      have hck : wr.cell? ⟨g, k, none⟩ = some (.bool mm[k]) := by rw [hblk.cell]; exact hcur k _ (List.getElem?_eq_getElem hkm)
                      have hfr := hblk.frozen k
                      have b2 : (k : Int) < (m.length : Int) := by omega
                      have HBLK := Lib.hid hblk
                      have HCUR := Lib.hid hcur
                      have HAB := Lib.hid habs
                      clear hblk hcur habs
                      go_wp2_with fail
                      go_quiet (fail)
                      go_wp2_with fail
                      go_roundw
                      case rel =>
                        have hsl : setL mm (-v) = mm.set k (decide (v < 0)) := by
                          unfold setL
                          rw [HAB.out, if_pos ⟨by omega, by rw [HNB.out.1]; omega⟩]
                          rw [show (v - 1).toNat = k by have := HV.out; omega]
                          try rw [show decide (0 < -v) = decide (v < 0) from decide_eq_decide.2 (by omega)]
                        have e3 : ((⟨g, 0, none⟩ : Addr).add k) = ⟨g, k, none⟩ := by unfold Addr.add; split <;> simp_all
                        refine ⟨j + 1, mm.set k (decide (v < 0)), by omega, by go_num, ?_, by rw [← hsl]; exact HSET.out, ?_, ?_⟩
                        · have hkk : k < m.length := by omega
                          exact NB.set (k := k) (HNB.out.ext ((Ext.refl _).drewN _)) hkk
                        · exact IntSl.far (HP.out.ext ((Ext.refl _).drewN _)) _ (fun x' => by rw [World.cell?_drewN, hck]; simp)
                        · exact (HXR.out.drewN _).setCell hgb _
                      case measure => simp [intOf]; omega
                    · have HAB := Lib.hid habs
                      clear habs
                      go_wp2_with fail
                      go_quiet (fail)
                      go_wp2_with fail
                      go_roundw
                      case rel => exact ⟨j + 1, mm, by omega, by go_num, HNB.out.ext ((Ext.refl _).drewN _), HMM.out, HP.out.ext ((Ext.refl _).drewN _), HXR.out.drewN _⟩
                      case measure => simp [intOf]; omega
                · have hjn : j = n8 := by omega
                  subst hjn
                  have HNB := Lib.hid hnb
                  have HMM := Lib.hid hmm
                  have HP := Lib.hid hp
                  have HXR := Lib.hid hxr
                  clear hnb hmm hp hxr
                  have y0 := (HB6.out.ext HXR.out).cell 0
                  have y1 := (HB6.out.ext HXR.out).cell 1
                  have hms := HNB.out.sl (by have := HN'.out; omega)
                  have HHF : Hid (holdsF x L mm = true) := by unfold Hid holdsF; rw [HNB.out.1, decide_eq_true HHL.out, decide_eq_true (firstV_neg.2 HMM.out)]; rfl
                  go_wp2_with fail
                  refine (cHolds_c _ _ _ _ L _ _ _ mm _ (h.ext (HX6.out.trans HXR.out)) hms).mono ?_
                  rintro e w9 ⟨rfl, hx9⟩
                  rw [HHF.out]
                  go_wp2_with fail
                  refine (law04awake_c _).mono ?_
                  rintro e w10 ⟨rfl, hx10⟩
                  go_wp2_with fail
                  go_ret
                  exact ⟨rfl, (HX6.out.trans HXR.out).trans (hx9.trans hx10)⟩
        · have hb : ((fCheckV x L).2 != 0) = true := by simpa using hck
          clear hck
          go_wp2_with fail
          refine (law04awake_c _).mono ?_
          rintro e w3 ⟨rfl, hx3⟩
          go_wp2_with fail
          go_ret
          exact ⟨rfl, HX2.out.trans hx3⟩
end Go.Proofs.Ytdhohoabcokdjaa
