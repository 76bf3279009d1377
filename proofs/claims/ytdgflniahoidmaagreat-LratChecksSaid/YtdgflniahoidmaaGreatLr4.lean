/- Layer 10 (proof): Check of one step. -/
import Derived.Test.YtdgflniahoidmaaGreatLr2
set_option maxRecDepth 100000
namespace Go.Proofs.YtdgflniahoidmaaGreat
open Go.RowKit

theorem enters_within1 : Enters 87 := by
  intro args w
  go_simp

theorem within1_c (n lo : Int) (q : Addr) (w : World) (hq : w.cell? q = some (.int .i64 lo)) :
    Calls Tryz.prog 87 #[.int .i64 n, .pointer (some q)] w fun e w' => e = .returned (.bool (outV lo n)) ∧ w = w' := by
  have HO : Hid (outV lo n = (decide (n < lo) || decide (10000000 < n) || decide (n = 0))) := rfl
  by_cases h1 : n < lo
  · go_enter Tryz.func87, Tryz.ntmps87
    go_wp2
    go_ret
    exact ⟨ret_bool (by rw [HO.out]; simp [h1]), rfl⟩
  · by_cases h2 : 10000000 < n
    · go_enter Tryz.func87, Tryz.ntmps87
      go_wp2
      go_ret
      exact ⟨ret_bool (by rw [HO.out]; simp [h2]), rfl⟩
    · by_cases h3 : n = 0
      · subst h3
        go_enter Tryz.func87, Tryz.ntmps87
        go_wp2
        go_ret
        exact ⟨ret_bool (by rw [HO.out]; simp), rfl⟩
      · have hb : (n == 0) = false := by simpa using h3
        go_enter Tryz.func87, Tryz.ntmps87
        go_wp2
        go_ret
        exact ⟨ret_bool (by rw [HO.out]; simp [h1, h2, h3]), rfl⟩

theorem within_c (A : Option Addr) (n c : Nat) (l : List Int) (lo : Int) (w : World) (h : IntSl w A n l) :
    Calls Tryz.prog 64 #[.slice A n c, .int .i64 lo] w fun e w' => e = .returned (.bool (withinV l lo)) ∧ Ext w w' := by
  have hn := h.len
  have HW : Hid (withinV l lo = (decide (n ≤ 1000) && !l.any (outV lo))) := by unfold Hid withinV; rw [h.1]
  have hq := cell_one w (.int .i64 lo) 3
  have hx := (Ext.refl w).alloc (Obj.cells #[.int .i64 lo] 3)
  by_cases h1 : n ≤ 1000
  · go_enter Tryz.func64, Tryz.ntmps64
    go_wp2_with fail
    refine (containsFunc_c _ _ _ l (outV lo) _ _ _ (h.ext hx) enters_within1 ?_).mono ?_
    · intro x _
      exact within1_c x lo _ _ hq
    rintro e w' ⟨rfl, rfl⟩
    generalize l.any (outV lo) = r at HW
    go_wp2_with fail
    go_ret
    exact ⟨ret_bool (by rw [HW.out]; simp [h1]), hx⟩
  · go_enter Tryz.func64, Tryz.ntmps64
    go_wp2_with fail
    go_ret
    exact ⟨ret_bool (by rw [HW.out]; simp [h1]), hx⟩

/-- A step as a value. -/
def stpV (s : Stp) (A : Option Addr) (n c : Nat) (A' : Option Addr) (n' c' : Nat) : Array Value := #[.int .i64 s.kind, .int .i64 s.id, .slice A n c, .slice A' n' c']

set_option maxHeartbeats 2000000 in
theorem may_c (s : Stp) (A : Option Addr) (n c : Nat) (A' : Option Addr) (n' c' : Nat) (w : World) (h : IntSl w A n s.lits) (h' : IntSl w A' n' s.hints) :
    Calls Tryz.prog 42 #[.agg #[.int .i64 s.kind, .int .i64 s.id, .slice A n c, .slice A' n' c']] w fun e w' => e = .returned (.bool (mayV s)) ∧ Ext w w' := by
  obtain ⟨kind, id, lits, hints⟩ := s
  have HX0 := Lib.hid ((Ext.refl w).alloc (Obj.cells #[.int .i64 kind, .int .i64 id, .slice A n c, .slice A' n' c'] 44))
  have HB0 := Lib.hid (Blk.new w 44 #[.int .i64 kind, .int .i64 id, .slice A n c, .slice A' n' c'])
  have HL := Lib.hid (h.ext HX0.out)
  have HH := Lib.hid (h'.ext HX0.out)
  have HLN := Lib.hid h.1
  have hn0 := h.len
  clear h h'
  dsimp only at HL HH HLN ⊢
  by_cases k1 : kind = 1
  · subst k1
    have HM : Hid (mayV ⟨1, id, lits, hints⟩ = (decide (1 ≤ id) && decide (id ≤ 10000000) && decide (cCheckV lits 100000 = 0) && withinV hints (-10000000))) := by unfold Hid mayV; rw [if_pos rfl]
    by_cases h1 : 1 ≤ id
    · by_cases h2 : id ≤ 10000000
      · by_cases h3 : cCheckV lits 100000 = 0
        · have HC := Lib.hid h3
          clear h3
          go_enter Tryz.func42, Tryz.ntmps42
          go_wp2_with fail
          refine (clauseCheck_c _ _ _ lits 100000 _ HL.out).mono ?_
          rintro e w1 ⟨rfl, hx1⟩
          rw [HC.out]
          have a3 : w1.cell? ⟨w.heap.size, 3, none⟩ = some (.slice A' n' c') := (HB0.out.ext hx1).cell 3
          have HX1 := Lib.hid hx1
          clear hx1
          go_wp2_with fail
          refine (within_c _ _ _ hints (-10000000) _ (HH.out.ext HX1.out)).mono ?_
          rintro e w2 ⟨rfl, hx2⟩
          have HX2 := Lib.hid (HX0.out.trans (HX1.out.trans hx2))
          clear hx2
          generalize withinV hints (-10000000) = r at HM
          go_wp2_with fail
          go_ret
          exact ⟨ret_bool (by rw [HM.out]; simp [h1, h2, HC.out]), HX2.out⟩
        · have hb : (cCheckV lits 100000 == 0) = false := by simpa using h3
          have HC := Lib.hid h3
          clear h3
          go_enter Tryz.func42, Tryz.ntmps42
          go_wp2_with fail
          refine (clauseCheck_c _ _ _ lits 100000 _ HL.out).mono ?_
          rintro e w1 ⟨rfl, hx1⟩
          have HX1 := Lib.hid (HX0.out.trans hx1)
          clear hx1
          have HMM : Hid (mayV ⟨1, id, lits, hints⟩ = false) := by unfold Hid; rw [HM.out]; simp [HC.out]
          clear HM HC
          generalize cCheckV lits 100000 = y at hb
          go_wp2_with fail
          go_ret
          exact ⟨ret_bool (by rw [HMM.out]), HX1.out⟩
      · go_enter Tryz.func42, Tryz.ntmps42
        go_wp2_with fail
        go_ret
        exact ⟨ret_bool (by rw [HM.out, decide_eq_false (show ¬ id ≤ 10000000 by omega)]; simp), HX0.out⟩
    · go_enter Tryz.func42, Tryz.ntmps42
      go_wp2_with fail
      go_ret
      exact ⟨ret_bool (by rw [HM.out, decide_eq_false (show ¬ 1 ≤ id by omega)]; simp), HX0.out⟩
  · have hk1 : (kind == 1) = false := by simpa using k1
    by_cases k2 : kind = 2
    · subst k2
      have HM : Hid (mayV ⟨2, id, lits, hints⟩ = (decide (0 ≤ id) && decide (id ≤ 10000000) && decide (n = 0) && withinV hints 1)) := by unfold Hid mayV; rw [if_neg (show ¬ ((2 : Int) = 1) by decide), if_pos rfl, HLN.out]
      by_cases h1 : 0 ≤ id
      · by_cases h2 : id ≤ 10000000
        · by_cases h3 : n = 0
          · subst h3
            go_enter Tryz.func42, Tryz.ntmps42
            go_wp2_with fail
            refine (within_c _ _ _ hints 1 _ HH.out).mono ?_
            rintro e w2 ⟨rfl, hx2⟩
            have HX2 := Lib.hid (HX0.out.trans hx2)
            clear hx2
            generalize withinV hints 1 = r at HM
            go_wp2_with fail
            go_ret
            exact ⟨ret_bool (by rw [HM.out]; simp [h1, h2]), HX2.out⟩
          · have hz : ((n : Int) == 0) = false := by rw [beq_eq_false_iff_ne]; omega
            go_enter Tryz.func42, Tryz.ntmps42
            go_wp2_with fail
            go_ret
            exact ⟨ret_bool (by rw [HM.out]; simp [h3]), HX0.out⟩
        · go_enter Tryz.func42, Tryz.ntmps42
          go_wp2_with fail
          go_ret
          exact ⟨ret_bool (by rw [HM.out, decide_eq_false (show ¬ id ≤ 10000000 by omega)]; simp), HX0.out⟩
      · go_enter Tryz.func42, Tryz.ntmps42
        go_wp2_with fail
        go_ret
        exact ⟨ret_bool (by rw [HM.out, decide_eq_false (show ¬ 0 ≤ id by omega)]; simp), HX0.out⟩
    · have hk2 : (kind == 2) = false := by simpa using k2
      have HM : Hid (mayV ⟨kind, id, lits, hints⟩ = false) := by unfold Hid mayV; rw [if_neg k1, if_neg k2]
      clear k1 k2
      go_enter Tryz.func42, Tryz.ntmps42
      go_wp2_with fail
      go_ret
      exact ⟨ret_bool (by rw [HM.out]), HX0.out⟩
end Go.Proofs.YtdgflniahoidmaaGreat

namespace Go.Proofs.YtdgflniahoidmaaGreat
open Go.RowKit

theorem check1_c (s : Stp) (A : Option Addr) (n c : Nat) (A' : Option Addr) (n' c' : Nat) (w : World) (h : IntSl w A n s.lits) (h' : IntSl w A' n' s.hints) :
    Calls Tryz.prog 41 #[.agg #[.int .i64 s.kind, .int .i64 s.id, .slice A n c, .slice A' n' c']] w fun e w' => e = .returned (.bool (!mayV s)) ∧ Ext w w' := by
  have hx := (Ext.refl w).alloc (Obj.cells #[.int .i64 s.kind, .int .i64 s.id, .slice A n c, .slice A' n' c'] 44)
  have HX := Lib.hid hx
  have HL := Lib.hid (h.ext hx)
  have HH := Lib.hid (h'.ext hx)
  clear h h' hx
  go_enter Tryz.func41, Tryz.ntmps41
  go_wp2_with fail
  refine (may_c s _ _ _ _ _ _ _ HL.out HH.out).mono ?_
  rintro e w1 ⟨rfl, hx1⟩
  have HX1 := Lib.hid (HX.out.trans hx1)
  clear hx1
  obtain ⟨r, hr⟩ : ∃ r, mayV s = r := ⟨_, rfl⟩
  have HR := Lib.hid hr
  rw [hr]
  clear hr
  go_wp2_with fail
  go_ret
  exact ⟨ret_bool (by rw [HR.out]), HX1.out⟩

set_option maxHeartbeats 1000000 in
theorem idxStep_c (s : Stp) (A : Option Addr) (n c : Nat) (A' : Option Addr) (n' c' : Nat) (g : Nat) (w : World) (hb : Blk w g 44 #[.int .i64 s.kind, .int .i64 s.id, .slice A n c, .slice A' n' c']) (h : IntSl w A n s.lits) (h' : IntSl w A' n' s.hints) :
    Calls Tryz.prog 40 #[.slice (some ⟨g, 0, none⟩) 1 1, .func (.func 41) #[] #[]] w fun e w' => e = .returned (.int .i64 (if mayV s then -1 else 0)) ∧ Ext w w' := by
  have c0 := hb.cell 0
  have c1 := hb.cell 1
  have c2 := hb.cell 2
  have c3 := hb.cell 3
  have HS := Lib.hid (And.intro h h')
  clear h h' hb
  cases hm : mayV s with
  | true =>
    have HM := Lib.hid hm
    clear hm
    go_enter Tryz.func40, Tryz.ntmps40
    go_wp2_with fail
    go_loopw [8] (fun i wr => ((i = .int .i64 0 ∧ w = wr) ∨ (i = .int .i64 1)) ∧ Ext w wr) (fun i _ => 1 - (intOf i).toNat)
    case atStart => exact ⟨.inl ⟨rfl, rfl⟩, Ext.refl w⟩
    case round =>
      obtain ⟨hi | hi, hx⟩ := hrel
      · obtain ⟨rfl, rfl⟩ := hi
        clear hx
        go_wp2_with fail
        refine (check1_c s _ _ _ _ _ _ _ HS.out.1 HS.out.2).mono ?_
        rintro e w1 ⟨rfl, hx1⟩
        rw [HM.out]
        have HX := Lib.hid hx1
        clear hx1
        go_wp2_with fail
        go_roundw
        case rel => exact ⟨.inr rfl, HX.out⟩
        case measure => simp [intOf]
      · subst hi
        have HX := Lib.hid hx
        clear hx
        go_wp2_with fail
        go_ret
        exact ⟨rfl, HX.out⟩
  | false =>
    have HM := Lib.hid hm
    clear hm
    go_enter Tryz.func40, Tryz.ntmps40
    go_wp2_with fail
    go_loopw [8] (fun i wr => i = .int .i64 0 ∧ w = wr) (fun i _ => 1 - (intOf i).toNat)
    case atStart => exact ⟨rfl, rfl⟩
    case round =>
      obtain ⟨rfl, rfl⟩ := hrel
      go_wp2_with fail
      refine (check1_c s _ _ _ _ _ _ _ HS.out.1 HS.out.2).mono ?_
      rintro e w1 ⟨rfl, hx1⟩
      rw [HM.out]
      have HX := Lib.hid hx1
      clear hx1
      go_wp2_with fail
      go_ret
      exact ⟨rfl, HX.out⟩

theorem proofCheck_c (s : Stp) (A : Option Addr) (n c : Nat) (A' : Option Addr) (n' c' : Nat) (g : Nat) (w : World) (hb : Blk w g 44 #[.int .i64 s.kind, .int .i64 s.id, .slice A n c, .slice A' n' c']) (h : IntSl w A n s.lits) (h' : IntSl w A' n' s.hints) :
    Calls Tryz.prog 25 #[.slice (some ⟨g, 0, none⟩) 1 1] w fun e w' => e = .returned (.tuple #[.int .i64 (if mayV s then 1 else 0), .int .i64 (if mayV s then 0 else 2)]) ∧ Ext w w' := by
  cases hm : mayV s with
  | true =>
    have HM := Lib.hid hm
    clear hm
    go_enter Tryz.func25, Tryz.ntmps25
    go_wp2_with fail
    refine (idxStep_c s _ _ _ _ _ _ g _ hb h h').mono ?_
    rintro e w1 ⟨rfl, hx1⟩
    rw [HM.out, if_pos rfl]
    have HX := Lib.hid hx1
    clear hx1
    go_wp2_with fail
    go_ret2
    exact ⟨rfl, HX.out⟩
  | false =>
    have HM := Lib.hid hm
    clear hm
    go_enter Tryz.func25, Tryz.ntmps25
    go_wp2_with fail
    refine (idxStep_c s _ _ _ _ _ _ g _ hb h h').mono ?_
    rintro e w1 ⟨rfl, hx1⟩
    rw [HM.out, if_neg (by decide)]
    have HX := Lib.hid hx1
    clear hx1
    go_wp2_with fail
    go_ret2
    exact ⟨rfl, HX.out⟩
end Go.Proofs.YtdgflniahoidmaaGreat
