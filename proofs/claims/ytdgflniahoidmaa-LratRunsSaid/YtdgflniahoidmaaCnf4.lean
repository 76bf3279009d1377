/- Layer 4 (cnf): more clauses. -/
import Derived.Test.YtdgflniahoidmaaCnf3
import Derived.Test.YtdgflniahoidmaaStill
import Derived.Deep.RegionLaw
set_option maxRecDepth 100000
namespace Go.Proofs.Ytdgflniahoidmaa
open Go.RowKit

/-- A slice of slices that the call built: it owns it, and its rows. -/
def WRows (w : World) (base : Nat) (v : Value) (L : List (List Int)) : Prop :=
  ∃ vs : List Value, w.ownsRow base 40 1 v vs.length vs ∧ vs.length = L.length ∧ ∀ (j : Nat) (xs : List Int), L[j]? = some xs → ∃ u, vs[j]? = some u ∧ OwnI w base u xs
section
variable {w w' : World} {base : Nat} {v : Value} {L : List (List Int)}
theorem WRows.nil (w : World) (base : Nat) : WRows w base (.slice none 0 0) [] := ⟨[], World.ownsRow_nil _ _ _ _, rfl, fun _ _ h => by simp at h⟩
theorem WRows.ext (h : WRows w base v L) (hx : Ext w w') : WRows w' base v L := by
  obtain ⟨vs, a, b, c⟩ := h
  refine ⟨vs, (show OwnV w base 40 1 v vs.length vs from a).ext hx, b, fun j xs hj => ?_⟩
  obtain ⟨u, h1, h2⟩ := c j xs hj
  exact ⟨u, h1, h2.ext hx⟩
theorem WRows.form (h : WRows w base v L) : ∃ A n c, v = .slice A n c ∧ n = L.length ∧ n ≤ c := by
  obtain ⟨vs, a, b, _⟩ := h
  obtain ⟨A, c, e, hc⟩ := OwnV.len (show OwnV w base 40 1 v vs.length vs from a)
  exact ⟨A, _, c, e, b, hc⟩
theorem ownsRow_ne_blk {base g size n : Nat} {e t : TypeId} {us : List Value} {cs : Array Value} (h : w.ownsRow base e size v n us) (hg : Blk w g t cs) (hne : e ≠ t) : v.ownBlock ≠ some g := by
  rcases h.2 with ⟨rfl, _⟩ | ⟨g', cap, cur, rfl, _, hh, _⟩
  · simp [Value.ownBlock]
  · intro he
    have : g' = g := by simpa [Value.ownBlock] using he
    subst this
    exact Blk.ne_ (t := e) hh hg hne rfl
theorem OwnI.ne_row {base base2 size n : Nat} {u : Value} {xs : List Int} {us : List Value} (h : OwnI w base u xs) (h2 : w.ownsRow base2 40 size v n us) : u.ownBlock = none ∨ u.ownBlock ≠ v.ownBlock := by
  rcases h2.2 with ⟨rfl, _⟩ | ⟨g', cap, cur, rfl, _, hh, _⟩
  · cases e : u.ownBlock with
    | none => exact Or.inl rfl
    | some k => exact Or.inr (by simp [Value.ownBlock])
  · exact Or.inr (h.ne_blk (g := g') (t := 40) hh (by decide))
theorem WRows.blk_set {g : Nat} {t : TypeId} {cs : Array Value} (h : WRows w base v L) (hg : Blk w g t cs) (h1 : 3 ≠ t) (h2 : 40 ≠ t) (hgr : w.grownBy w' (some g)) : WRows w' base v L := by
  obtain ⟨vs, a, b, c⟩ := h
  refine ⟨vs, World.ownsRow.kept a hgr (Or.inr (ownsRow_ne_blk a hg h2)), b, fun j xs hj => ?_⟩
  obtain ⟨u, e1, e2⟩ := c j xs hj
  exact ⟨u, e1, e2.kept hgr (Or.inr (e2.ne_blk hg h1))⟩
theorem WRows.blk (h : WRows w base v L) : ∀ k, v.ownBlock = some k → base ≤ k ∧ k < w.heap.size := let ⟨_, a, _, _⟩ := h; World.ownsRow.lt a
theorem WRows.ne_blk {g : Nat} {t : TypeId} {cs : Array Value} (h : WRows w base v L) (hg : Blk w g t cs) (h2 : 40 ≠ t) : v.ownBlock ≠ some g := let ⟨_, a, _, _⟩ := h; ownsRow_ne_blk a hg h2
theorem WRows.sl (h : WRows w base v L) (hb : ∀ xs ∈ L, xs.length ≤ 9223372036854775807 ∧ ∀ x ∈ xs, -9223372036854775808 ≤ x ∧ x ≤ 9223372036854775807) (hn : L.length ≤ 9223372036854775807) : ∃ A n c, v = .slice A n c ∧ RowsSl w A n L ∧ n ≤ c := by
  obtain ⟨vs, h0, hl, hr⟩ := h
  rcases h0.2 with ⟨rfl, h1⟩ | ⟨g, cap, cur, rfl, hbb, hgg, hc, _⟩
  · have : L = [] := List.eq_nil_of_length_eq_zero (by omega)
    subst this
    exact ⟨none, 0, 0, rfl, RowsSl.nil w, Nat.le_refl _⟩
  · refine ⟨_, _, _, rfl, ⟨hl.symm, by omega, fun _ => ⟨_, rfl, fun j xs hj => ?_⟩⟩, hc⟩
    obtain ⟨u, h1, h2⟩ := hr j xs hj
    obtain ⟨q1, q2⟩ := hb xs (List.mem_of_getElem? hj)
    obtain ⟨A, n, c, rfl, hs⟩ := h2.sl q1 q2
    exact ⟨A, n, c, h0.cells (g := g) rfl j _ h1, hs⟩
end

/-- 'append(v, y)' at a step of a region that draws its order: the row y was laid in a block of its own. -/
theorem step_appendW (w : World) {ops : Array Oper} {o : Oper} {a : Act} {K : Act → World → Prop} {Q : Exit → Act → World → Prop} {E : Prop} (hgd : o.guard = none) (s x : Operand)
    (ho : o.op = .call { callee := .builtin .append, args := #[s, x], argTypes := #[22, 22] })
    (base : Nat) (v : Value) (L : List (List Int)) (hs : a.eval s = v) (hown : WRows w base v L) (ad : Addr) (c : Nat) (A : Option Addr) (n c' : Nat) (y : List Int) (hx : a.eval x = .slice (some ad) 1 c) (hc : w.cell? ad = some (.slice A n c'))
    (hy : OwnI w base (.slice A n c') y) (hb : L.length + 1 ≤ 1000000000000) (hbase : base ≤ w.heap.size)
    (h : ∀ A1 n1 c1 w', WRows w' base (.slice A1 n1 c1) (L ++ [y]) → w.grownBy w' v.ownBlock → K (a.put o.dst (.slice A1 n1 c1)) w') :
    if Region.wanted o (yielded ops a.tmps) = true then Oper.wp Try.prog o a w K Q else E := by
  have hw : Region.wanted o (yielded ops a.tmps) = true := by simp [Region.wanted, hgd]
  rw [if_pos hw]
  obtain ⟨i, hi, hz, h1, h2⟩ := info_parts infoR
  obtain ⟨vs, hv, hl, hr⟩ := hown
  obtain ⟨v', w', hrun, g1, g2, _, g3⟩ := run_append_own_at (P := Try.prog) w base 22 o.type 40 i (.slice none 0 0) 1 24 Try.underlying22 hi hz h1 h2 rfl (by decide) v vs.length _ hv ad 1 c [.slice A n c'] (by simp) (fun j u hj => by
    cases j with
    | zero => simp at hj; subst hj; simpa [Addr.add] using hc
    | succ j => simp at hj) (by intro u hu; rw [List.mem_singleton.1 hu]; rfl) (by unfold maxLen; omega) (by omega) hbase
  obtain ⟨A1, n1, c1, rfl⟩ := OwnV.form (show OwnV w' base 40 1 v' _ _ from g1)
  unfold Oper.wp execOp
  simp only [ho, resolve, invoke, builtin, Sem.run_bind, Sem.run_pure, Result.andThen_ok, List.map_toArray, List.map_cons, List.map_nil, hs, hx, hrun]
  refine h A1 n1 c1 w' ⟨vs ++ [.slice A n c'], ?_, by simp [hl], ?_⟩ g2
  · rw [List.length_append]; exact g1
  · intro j xs hj
    by_cases hjl : j < L.length
    · rw [List.getElem?_append_left hjl] at hj
      obtain ⟨u, e1, e2⟩ := hr j xs hj
      exact ⟨u, by rw [List.getElem?_append_left (by omega)]; exact e1, e2.kept g2 (e2.ne_row hv)⟩
    · rw [List.getElem?_append_right (by omega)] at hj
      have : j - L.length = 0 := by have := (List.getElem?_eq_some_iff.1 hj).1; simp at this; omega
      rw [this] at hj
      simp at hj
      subst hj
      exact ⟨_, by rw [List.getElem?_append_right (by omega), hl, this]; rfl, hy.kept g2 (hy.ne_row hv)⟩

theorem Blk.newg2 {w : World} {g : Nat} (t : TypeId) (cs : Array Value) (hg : w.heap.size = g) : Blk (w.alloc (.cells cs t)) g t cs := by subst hg; exact Blk.new w t cs

theorem with_end {w w4 w6 : World} {g g4 base : Nat} {y : Int} {vold vnew : Value} {L L' : List (List Int)} {o : Obj} {cs4 : Array Value} (hb4 : Blk w4 g 24 #[.int .i64 y, vold]) (hr4 : Blk w4 g4 24 cs4) (hgg : g4 ≠ g) (hw4 : WRows w4 base vold L)
    (hg : (w4.alloc o).grownBy w6 vold.ownBlock) (hw6 : WRows w6 base vnew L') (hx : Ext w w4) (hbase : w.heap.size ≤ base) (hgw : w.heap.size ≤ g) :
    WRows (w6.setCell ⟨g, 1, none⟩ vnew) base vnew L' ∧ Blk (w6.setCell ⟨g, 1, none⟩ vnew) g 24 #[.int .i64 y, vnew] ∧ Blk (w6.setCell ⟨g, 1, none⟩ vnew) g4 24 cs4 ∧ Ext w (w6.setCell ⟨g, 1, none⟩ vnew) := by
  have h1 := hw4.ext ((Ext.refl w4).alloc o)
  have hb6 := (hb4.alloc o).grown hg (Ne.symm (h1.ne_blk (hb4.alloc o) (by decide)))
  have hr6 := (hr4.alloc o).grown hg (Ne.symm (h1.ne_blk (hr4.alloc o) (by decide)))
  have gset : w6.grownBy (w6.setCell ⟨g, 1, none⟩ vnew) (some g) := ⟨rfl, rfl, rfl, by rw [World.size_setCell]; exact Nat.le_refl _, fun k _ hk => Below.heap_setCell w6 _ vnew k (fun e => hk (by rw [e]))⟩
  refine ⟨hw6.blk_set hb6 (by decide) (by decide) gset, hb6.set_ 1 vnew, hr6.far (p := ⟨g, 1, none⟩) hgg vnew, ?_⟩
  exact ((hx.alloc o).grown hg (fun k e => by have := (h1.blk k e).1; omega)).grown gset (fun k e => by cases e; exact hgw)
theorem max_end {w w4 : World} {g g4 base : Nat} {y z : Int} {v : Value} {L : List (List Int)} {cs4 : Array Value} (hb4 : Blk w4 g 24 #[.int .i64 y, v]) (hr4 : Blk w4 g4 24 cs4) (hgg : g4 ≠ g) (hw4 : WRows w4 base v L) (hx : Ext w w4) (hgw : w.heap.size ≤ g) :
    WRows (w4.setCell ⟨g, 0, none⟩ (.int .i64 z)) base v L ∧ Blk (w4.setCell ⟨g, 0, none⟩ (.int .i64 z)) g 24 #[.int .i64 z, v] ∧ Blk (w4.setCell ⟨g, 0, none⟩ (.int .i64 z)) g4 24 cs4 ∧ Ext w (w4.setCell ⟨g, 0, none⟩ (.int .i64 z)) := by
  have gset : w4.grownBy (w4.setCell ⟨g, 0, none⟩ (.int .i64 z)) (some g) := ⟨rfl, rfl, rfl, by rw [World.size_setCell]; exact Nat.le_refl _, fun k _ hk => Below.heap_setCell w4 _ _ k (fun e => hk (by rw [e]))⟩
  exact ⟨hw4.blk_set hb4 (by decide) (by decide) gset, hb4.set_ 0 _, hr4.far (p := ⟨g, 0, none⟩) hgg _, hx.grown gset (fun k e => by cases e; exact hgw)⟩

def withV (v : Int) (M : List (List Int)) : Int := M.foldl (fun a c => max a (mostV c)) v
theorem withV_snoc (v : Int) (M : List (List Int)) (c : List Int) : withV v (M ++ [c]) = max (withV v M) (mostV c) := by unfold withV; rw [List.foldl_append]; rfl
theorem withV_le (M : List (List Int)) : ∀ v, v ≤ withV v M ∧ withV v M ≤ max v 100000 := by
  induction M with
  | nil => intro v; exact ⟨Int.le_refl _, by show v ≤ _; omega⟩
  | cons c M ih =>
    intro v
    have := ih (max v (mostV c))
    have h2 := mostV_bd c
    have e : withV v (c :: M) = withV (max v (mostV c)) M := rfl
    rw [e]; omega

/-- What With hands back. -/
def RetWith (v : Int) (L M : List (List Int)) (w : World) (e : Ending) (w' : World) : Prop :=
  ∃ A n c, e = .returned (.agg #[.int .i64 (withV v M), .slice A n c]) ∧ RowsSl w' A n (L ++ M) ∧ n ≤ c ∧ Ext w w'

/-- And it owns what it hands back. -/
def RetWithW (v : Int) (L M : List (List Int)) (w : World) (e : Ending) (w' : World) : Prop :=
  ∃ A n c, e = .returned (.agg #[.int .i64 (withV v M), .slice A n c]) ∧ RowsSl w' A n (L ++ M) ∧ n ≤ c ∧ Ext w w' ∧ WRows w' w.heap.size (.slice A n c) (L ++ M)

set_option maxRecDepth 100000 in
set_option maxHeartbeats 4000000 in
theorem withW_c (v : Int) (A : Option Addr) (n c : Nat) (L : List (List Int)) (A' : Option Addr) (n' c' : Nat) (M : List (List Int)) (w : World) (h : RowsSl w A n L) (h' : RowsSl w A' n' M) (hv1 : -9223372036854775808 ≤ v) (hv2 : v ≤ 9223372036854775807)
    (hsm : n ≤ 1000000) (hsm' : n' ≤ 1000000) (hlb : ∀ xs ∈ L ++ M, xs.length ≤ 1000000) :
    Calls Try.prog 14 #[.agg #[.int .i64 v, .slice A n c], .slice A' n' c'] w (RetWithW v L M w) := by
  have hn := h.len
  have hn' := h'.len
  have HLB := Lib.hid hlb
  clear hlb
  go_enter Try.func14, Try.ntmps14
  go_wp2_with fail
  go_loopw [16] (fun i wr => ∃ (k : Nat) (vv : Value), k ≤ n ∧ i = .int .i64 k ∧ WRows wr w.heap.size vv (L.take k) ∧ Blk wr (w.heap.size + 1 + 1) 24 #[.int .i64 v, vv] ∧ Blk wr (w.heap.size + 1) 24 #[.int .i64 0, .slice none 0 0] ∧ Ext w wr) (fun i _ => n - (intOf i).toNat)
  case atStart => exact ⟨0, _, Nat.zero_le _, rfl, WRows.nil _ _, Blk.newg2 _ _ (by simp), (Blk.newg2 _ _ (by simp)).alloc _, by (repeat (first | with_reducible exact Ext.refl _ | with_reducible apply Ext.alloc | with_reducible apply Ext.drew | with_reducible apply Ext.drewN | (apply Ext.trans'; assumption)))⟩
  case round =>
    obtain ⟨k, vv, hk, rfl, hw, hb, hr, hx⟩ := hrel
    obtain ⟨Ao, no, co, rfl, hno, hnc⟩ := hw.form
    have c1 := hb.cell 1
    have HNO := Lib.hid hno
    have HW := Lib.hid hw
    have HB := Lib.hid hb
    have HR := Lib.hid hr
    have HX := Lib.hid hx
    have hsz := hx.size_le
    have hll : (L.take k).length + 1 ≤ 1000000000000 := by have := List.length_take_le k L; omega
    have HLL := Lib.hid hll
    clear hno hw hb hr hx hll
    by_cases hlt : k < n
    · obtain ⟨ad, xs, A1, n1, c1', rfl, hy, hcx, hrow⟩ := (h.ext HX.out).at_ hlt
      have HT := Lib.hid (take_succ_of hy.out)
      have hn1 : n1 ≤ 1000000000000 := by have := HLB.out xs (List.mem_append_left _ (List.mem_of_getElem? hy.out)); have := hrow.1; omega
      have HXD : Hid (Ext wr wr.drew) := Lib.hid (Ext.refl wr).drew
      have HROW := Lib.hid (hrow.ext HXD.out)
      have hszd : w.heap.size ≤ wr.drew.heap.size := hsz
      clear hrow
      go_wp2
      go_region_law
        ((first
          | (go_simp; (with_reducible refine (clone_c _ _ _ xs _ HROW.out hn1).mono ?_); rintro e w4 ⟨v4, rfl, ho4, hx4⟩; obtain ⟨A4, n4, c4, rfl⟩ := ho4.form; have hx5 := HXD.out.trans hx4; have hb4 := HB.out.ext hx5; have e1 : w4.cell? ⟨w.heap.size + 1 + 1, 1, none⟩ = some (.slice Ao no co) := hb4.cell 1; have m1 : ∀ o, (w4.alloc o).cell? ⟨w.heap.size + 1 + 1, 1, none⟩ = some (.slice Ao no co) := (fun o => ((Ext.refl w4).alloc o).cell e1); have HX5 := Lib.hid hx5; have HB4 := Lib.hid hb4; have HW4 := Lib.hid (HW.out.ext hx5); have HO4 := Lib.hid (ho4.less hszd); clear ho4 hb4 hx5; dsimp only)
          | (refine step_appendW _ (by rfl) (.tmp 21) (.tmp 24) (by rfl) w.heap.size _ (L.take k) (by rfl) (HW4.out.ext (by (repeat (first | with_reducible exact Ext.refl _ | with_reducible apply Ext.alloc | with_reducible apply Ext.drew | with_reducible apply Ext.drewN | (apply Ext.trans'; assumption))))) _ _ A4 n4 c4 xs (by rfl) (by first | exact cell_one _ _ _ | go_simp) (OwnI.ext HO4.out (by (repeat (first | with_reducible exact Ext.refl _ | with_reducible apply Ext.alloc | with_reducible apply Ext.drew | with_reducible apply Ext.drewN | (apply Ext.trans'; assumption))))) HLL.out (by have := HX5.out.size_le; simp; omega) ?_; intro A6 n6 c6 w6 hw6 hg6; have hb6 := (HB4.out.ext (show Ext w4 _ by (repeat (first | with_reducible exact Ext.refl _ | with_reducible apply Ext.alloc | with_reducible apply Ext.drew | with_reducible apply Ext.drewN | (apply Ext.trans'; assumption))))).grown hg6 (Ne.symm (WRows.ne_blk (HW4.out.ext (show Ext w4 _ by (repeat (first | with_reducible exact Ext.refl _ | with_reducible apply Ext.alloc | with_reducible apply Ext.drew | with_reducible apply Ext.drewN | (apply Ext.trans'; assumption))))) (HB4.out.ext (show Ext w4 _ by (repeat (first | with_reducible exact Ext.refl _ | with_reducible apply Ext.alloc | with_reducible apply Ext.drew | with_reducible apply Ext.drewN | (apply Ext.trans'; assumption))))) (by decide))); have s1 := hb6.cell 1; have f1 := hb6.frozen 1; have HB6 := Lib.hid hb6; have HG6 := Lib.hid hg6; have HW6 := Lib.hid hw6; clear hb6 hg6 hw6)))
      all_goals
        obtain ⟨z1, z2, z3, z4⟩ := with_end HB4.out (HR.out.ext HX5.out) (by omega) HW4.out HG6.out HW6.out (HX.out.trans HX5.out) (Nat.le_refl _) (by omega)
        have Z1 := Lib.hid z1
        have Z2 := Lib.hid z2
        have Z3 := Lib.hid z3
        have Z4 := Lib.hid z4
        clear z1 z2 z3 z4
        go_wp2
        go_roundw
        case rel => exact ⟨k + 1, _, by omega, by go_num, by rw [HT.out]; exact Z1.out, Z2.out, Z3.out, Z4.out⟩
        case measure => simp [intOf]; omega
    · have hw2 := HW.out
      rw [take_len_of h.1 hlt] at hw2
      have HW2 := Lib.hid hw2
      have HLn := Lib.hid h.1
      clear hw2 HW c1 HLL
      go_wp2_with fail
      go_loopw [30] (fun i wr => ∃ (k : Nat) (vv : Value) (y : Int), k ≤ n' ∧ i = .int .i64 k ∧ y = withV v (M.take k) ∧ WRows wr w.heap.size vv (L ++ M.take k) ∧ Blk wr (w.heap.size + 1 + 1) 24 #[.int .i64 y, vv] ∧ Blk wr (w.heap.size + 1) 24 #[.int .i64 0, .slice none 0 0] ∧ Ext w wr) (fun i _ => n' - (intOf i).toNat)
      case atStart => exact ⟨0, _, v, Nat.zero_le _, rfl, rfl, by simpa using HW2.out, HB.out, HR.out, HX.out⟩
      case round =>
        clear HW2 HB HR HX hsz hnc HNO
        obtain ⟨k, vv, y, hk, rfl, hy, hw, hb, hr, hx⟩ := hrel
        obtain ⟨Ao, no, co, rfl, hno, hnc⟩ := hw.form
        have c0 := hb.cell 0
        have f0 := hb.frozen 0
        have hyb := withV_le (M.take k) v
        have hyb1 : -9223372036854775808 ≤ y ∧ y ≤ 9223372036854775807 := by rw [hy]; omega
        obtain ⟨hy1, hy2⟩ := hyb1
        have HY := Lib.hid hy
        have HW := Lib.hid hw
        have HB := Lib.hid hb
        have HR := Lib.hid hr
        have HX := Lib.hid hx
        have hsz := hx.size_le
        have hll : (L ++ M.take k).length + 1 ≤ 1000000000000 := by have := List.length_take_le k M; have := HLn.out; rw [List.length_append]; omega
        have HLL := Lib.hid hll
        clear hno hw hb hr hx hll hy hyb
        by_cases hlt : k < n'
        · obtain ⟨ad, xs, A1, n1, c1', rfl, hyy, hcx0, hrow⟩ := h'.at_ hlt
          have hcx := HX.out.cell hcx0
          have HT := Lib.hid (take_succ_of hyy.out)
          have hn1 : n1 ≤ 1000000000000 := by have := HLB.out xs (List.mem_append_right _ (List.mem_of_getElem? hyy.out)); have := hrow.1; omega
          have HS : Hid (withV v (M.take (k + 1)) = max y (mostV xs)) := by unfold Hid; rw [HT.out, withV_snoc, ← HY.out]
          have hmb := mostV_bd xs
          obtain ⟨zz, hzz⟩ : ∃ zz, max y (mostV xs) = zz := ⟨_, rfl⟩
          have HZZ := Lib.hid hzz
          obtain ⟨mm, hmm⟩ : ∃ mm, mostV xs = mm := ⟨_, rfl⟩
          rw [hmm] at hmb hzz
          have HMM := Lib.hid hmm
          obtain ⟨hm1, hm2⟩ := hmb
          have HROW := Lib.hid hrow
          clear hrow hmm
          go_wp2
          refine still_tailV 6 (by kernel_rfl) (by kernel_rfl) fun W hW => ?_
          have hXW : Ext wr W := by rw [hW]; exact (Ext.refl _).drew
          have q : Calls Try.prog 30 #[.slice A1 n1 c1'] W fun e w' => e = .returned (.int .i64 mm) ∧ w' = W := (most_c _ _ _ xs _ (HROW.out.ext (HX.out.trans hXW))).mono fun e w' ⟨he, hw⟩ => ⟨by rw [he, HMM.out], hw.symm⟩
          have hbW := HB.out.ext hXW
          have c0W := hbW.cell 0
          have f0W := hbW.frozen 0
          have HXW := Lib.hid hXW
          have HBW := Lib.hid hbW
          clear hW hXW hbW
          simp only [List.take_succ_cons, List.take_zero, List.drop_succ_cons, List.drop_zero]
          repeat still_step
          still_call q
          repeat still_step
          refine wpStill_nil ?_
          have hmx : (if y < mm then mm else y) = zz := by rw [← hzz]; split <;> omega
          rw [hmx]
          have hz1 : -9223372036854775808 ≤ zz ∧ zz ≤ 9223372036854775807 := by omega
          obtain ⟨hz1, hz2⟩ := hz1
          obtain ⟨z1, z2, z3, z4⟩ := max_end (z := zz) HBW.out (HR.out.ext HXW.out) (show w.heap.size + 1 ≠ w.heap.size + 1 + 1 by omega) (HW.out.ext HXW.out) (HX.out.trans HXW.out) (by omega)
          clear hzz hmx hcx hcx0 q
          have ZW := Lib.hid z1
          have ZB := Lib.hid z2
          have ZR := Lib.hid z3
          have ZX := Lib.hid z4
          clear z1 z2 z3 z4
          go_wp2
          clear c0W f0W c0 f0
          revert ZW ZB ZR ZX
          generalize W.setCell ⟨w.heap.size + 1 + 1, 0, none⟩ (.int .i64 zz) = Wm
          intro ZW ZB ZR ZX
          have c1 := ZB.out.cell 1
          have hsz := ZX.out.size_le
          have HXD : Hid (Ext Wm Wm.drew) := Lib.hid (Ext.refl Wm).drew
          have HROWM := Lib.hid (HROW.out.ext (ZX.out.trans HXD.out))
          have hszd : w.heap.size ≤ Wm.drew.heap.size := hsz
          go_region_law
            ((first
              | (go_simp; (with_reducible refine (clone_c _ _ _ xs _ HROWM.out hn1).mono ?_); rintro e w4 ⟨v4, rfl, ho4, hx4⟩; obtain ⟨A4, n4, c4, rfl⟩ := ho4.form; have hx5 := HXD.out.trans hx4; have hb4 := ZB.out.ext hx5; have e1 : w4.cell? ⟨w.heap.size + 1 + 1, 1, none⟩ = some (.slice Ao no co) := hb4.cell 1; have m1 : ∀ o, (w4.alloc o).cell? ⟨w.heap.size + 1 + 1, 1, none⟩ = some (.slice Ao no co) := (fun o => ((Ext.refl w4).alloc o).cell e1); have HX5 := Lib.hid hx5; have HB4 := Lib.hid hb4; have HW4 := Lib.hid (ZW.out.ext hx5); have HO4 := Lib.hid (ho4.less hszd); clear ho4 hb4 hx5; dsimp only)
              | (refine step_appendW _ (by rfl) (.tmp 41) (.tmp 44) (by rfl) w.heap.size _ (L ++ M.take k) (by rfl) (HW4.out.ext (by (repeat (first | with_reducible exact Ext.refl _ | with_reducible apply Ext.alloc | with_reducible apply Ext.drew | with_reducible apply Ext.drewN | (apply Ext.trans'; assumption))))) _ _ A4 n4 c4 xs (by rfl) (by first | exact cell_one _ _ _ | go_simp) (OwnI.ext HO4.out (by (repeat (first | with_reducible exact Ext.refl _ | with_reducible apply Ext.alloc | with_reducible apply Ext.drew | with_reducible apply Ext.drewN | (apply Ext.trans'; assumption))))) HLL.out (by have := HX5.out.size_le; simp; omega) ?_; intro A6 n6 c6 w6 hw6 hg6; have hb6 := (HB4.out.ext (show Ext w4 _ by (repeat (first | with_reducible exact Ext.refl _ | with_reducible apply Ext.alloc | with_reducible apply Ext.drew | with_reducible apply Ext.drewN | (apply Ext.trans'; assumption))))).grown hg6 (Ne.symm (WRows.ne_blk (HW4.out.ext (show Ext w4 _ by (repeat (first | with_reducible exact Ext.refl _ | with_reducible apply Ext.alloc | with_reducible apply Ext.drew | with_reducible apply Ext.drewN | (apply Ext.trans'; assumption))))) (HB4.out.ext (show Ext w4 _ by (repeat (first | with_reducible exact Ext.refl _ | with_reducible apply Ext.alloc | with_reducible apply Ext.drew | with_reducible apply Ext.drewN | (apply Ext.trans'; assumption))))) (by decide))); have s1 := hb6.cell 1; have f1 := hb6.frozen 1; have HB6 := Lib.hid hb6; have HG6 := Lib.hid hg6; have HW6 := Lib.hid hw6; clear hb6 hg6 hw6)))
          all_goals
            obtain ⟨z1, z2, z3, z4⟩ := with_end HB4.out (ZR.out.ext HX5.out) (by omega) HW4.out HG6.out HW6.out (ZX.out.trans HX5.out) (Nat.le_refl _) (by omega)
            have Z1 := Lib.hid z1
            have Z2 := Lib.hid z2
            have Z3 := Lib.hid z3
            have Z4 := Lib.hid z4
            clear z1 z2 z3 z4
            go_wp2
            go_roundw
            case rel => exact ⟨k + 1, _, zz, by omega, by go_num, by rw [HS.out, HZZ.out], by rw [HT.out, ← List.append_assoc]; exact Z1.out, Z2.out, Z3.out, Z4.out⟩
            case measure => simp [intOf]; omega
        · have hw2 := HW.out
          have hy2' := HY.out
          rw [take_len_of h'.1 hlt] at hw2 hy2'
          have HW2 := Lib.hid hw2
          have HY2 := Lib.hid hy2'
          have c1 := HB.out.cell 1
          clear hw2 hy2'
          have r0 := HR.out.cell 0
          have r1 := HR.out.cell 1
          have q0 := HR.out.frozen 0
          have q1 := HR.out.frozen 1
          go_wp2_with fail
          have g0 : wr.grownBy (wr.setCell ⟨w.heap.size + 1, 0, none⟩ (.int .i64 y)) (some (w.heap.size + 1)) := ⟨rfl, rfl, rfl, by rw [World.size_setCell]; exact Nat.le_refl _, fun k _ hk => Below.heap_setCell wr _ _ k (fun e => hk (by rw [e]))⟩
          have hb1 := HR.out.set_ 0 (.int .i64 y)
          have g1 : (wr.setCell ⟨w.heap.size + 1, 0, none⟩ (.int .i64 y)).grownBy ((wr.setCell ⟨w.heap.size + 1, 0, none⟩ (.int .i64 y)).setCell ⟨w.heap.size + 1, 1, none⟩ (.slice Ao no co)) (some (w.heap.size + 1)) := ⟨rfl, rfl, rfl, by rw [World.size_setCell (wr.setCell ⟨w.heap.size + 1, 0, none⟩ (.int .i64 y))]; exact Nat.le_refl _, fun k _ hk => Below.heap_setCell _ _ _ k (fun e => hk (by rw [e]))⟩
          have hb2 := hb1.set_ 1 (.slice Ao no co)
          have hwf := (HW2.out.blk_set HR.out (by decide) (by decide) g0).blk_set hb1 (by decide) (by decide) g1
          have hxf := (HX.out.grown g0 (fun k e => by cases e; omega)).grown g1 (fun k e => by cases e; omega)
          have t0 := hb2.cell 0
          have t1 := hb2.cell 1
          refine bodyPost_ret (v := .agg #[.int .i64 y, .slice Ao no co]) (by simp [results, Try.results14, go_sem, t0, t1]) rfl ?_
          have hbnd : ∀ xs ∈ L ++ M, xs.length ≤ 9223372036854775807 ∧ ∀ x ∈ xs, -9223372036854775808 ≤ x ∧ x ≤ 9223372036854775807 := by
            intro xs hxs
            refine ⟨by have := HLB.out xs hxs; omega, fun x hx => ?_⟩
            rcases List.mem_append.1 hxs with hm | hm
            · obtain ⟨j, hj⟩ := List.mem_iff_getElem?.1 hm
              obtain ⟨_, xs', _, _, _, _, hj', _, hrow⟩ := h.at_ (k := j) (by have := (List.getElem?_eq_some_iff.1 hj).1; have := HLn.out; omega)
              obtain rfl : xs = xs' := Option.some.inj (hj.symm.trans hj'.out)
              exact hrow.2.2.1 x hx
            · obtain ⟨j, hj⟩ := List.mem_iff_getElem?.1 hm
              obtain ⟨_, xs', _, _, _, _, hj', _, hrow⟩ := h'.at_ (k := j) (by have := (List.getElem?_eq_some_iff.1 hj).1; have := h'.1; omega)
              obtain rfl : xs = xs' := Option.some.inj (hj.symm.trans hj'.out)
              exact hrow.2.2.1 x hx
          obtain ⟨A9, n9, c9, e9, hs9, hn9⟩ := hwf.sl hbnd (by have := HLn.out; have := h'.1; rw [List.length_append]; omega)
          cases e9
          exact ⟨_, _, _, by rw [HY2.out], hs9, hn9, hxf, hwf⟩

theorem with_c (v : Int) (A : Option Addr) (n c : Nat) (L : List (List Int)) (A' : Option Addr) (n' c' : Nat) (M : List (List Int)) (w : World) (h : RowsSl w A n L) (h' : RowsSl w A' n' M) (hv1 : -9223372036854775808 ≤ v) (hv2 : v ≤ 9223372036854775807)
    (hsm : n ≤ 1000000) (hsm' : n' ≤ 1000000) (hlb : ∀ xs ∈ L ++ M, xs.length ≤ 1000000) :
    Calls Try.prog 14 #[.agg #[.int .i64 v, .slice A n c], .slice A' n' c'] w (RetWith v L M w) :=
  (withW_c v A n c L A' n' c' M w h h' hv1 hv2 hsm hsm' hlb).mono fun _ _ ⟨A1, n1, c1, e, h1, h2, h3, _⟩ => ⟨A1, n1, c1, e, h1, h2, h3⟩
end Go.Proofs.Ytdgflniahoidmaa
