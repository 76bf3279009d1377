/- Layer 3 (assign): what a unit clause says. -/
import Derived.Test.YtdhohoabcokdjaaAssign3
import Derived.Test.YtdhohoabcokdjaaFn
import Derived.Laws.EntriesVeiled
set_option maxRecDepth 100000
namespace Go.Proofs.Ytdhohoabcokdjaa
open Go.RowKit Go.Maps

/-- Is a literal open? -/
def opP (l : List Int) (x : Int) : Bool := decide (varV x ≠ 0) && decide (valueV l x = 0)
theorem cnV_filter (l c : List Int) : cnV l c 0 = ((c.filter (opP l)).length : Nat) := by rw [← List.countP_eq_length_filter]; rfl
/-- The open literal of a clause. -/
def openV (l c : List Int) : Int := (c.filter (opP l)).headD 0
/-- Is a clause unit? -/
def unitB (l c : List Int) : Bool := decide (cnV l c 1 = 0) && decide (cnV l c 0 = 1)
def unitU (l c : List Int) : Int := if unitB l c then openV l c else 0
theorem unitB_of {l c : List Int} (h1 : cnV l c 1 = 0) (h0 : cnV l c 0 = 1) : unitB l c = true := by simp [unitB, h1, h0]
theorem unitB_not1 {l c : List Int} (h1 : ¬ cnV l c 1 = 0) : unitB l c = false := by simp [unitB, h1]
theorem unitB_not0 {l c : List Int} (h0 : ¬ cnV l c 0 = 1) : unitB l c = false := by simp [unitB, h0]
theorem unit_one {l c : List Int} (h0 : cnV l c 0 = 1) : c.filter (opP l) = [openV l c] := by
  rw [cnV_filter] at h0
  unfold openV
  have h1 : (c.filter (opP l)).length = 1 := by omega
  obtain ⟨a, e⟩ := List.length_eq_one_iff.1 h1
  rw [e]; rfl
theorem find_first {α : Type} {p : α → Bool} {xs : List α} {d : α} (h : xs.filter p ≠ []) : ∃ k : Nat, idxP p xs = k ∧ k < xs.length ∧ xs[k]? = some ((xs.filter p).headD d) := by
  unfold idxP
  cases e : xs.findIdx? p with
  | none =>
    rw [List.findIdx?_eq_none_iff] at e
    exact absurd (List.filter_eq_nil_iff.2 (fun x hx => by simp [e x hx])) h
  | some k =>
    have e' := e
    rw [List.findIdx?_eq_some_iff_getElem] at e
    obtain ⟨hk, hp, hno⟩ := e
    refine ⟨k, rfl, hk, ?_⟩
    have hf : xs.find? p = some xs[k] := by
      rw [List.find?_eq_some_iff_getElem]
      exact ⟨hp, k, hk, rfl, fun j hj => by simpa using hno j hj⟩
    rw [← List.head?_filter] at hf
    cases hq : xs.filter p with
    | nil => rw [hq] at hf; simp at hf
    | cons y ys => rw [hq] at hf; simp at hf; simp [hf, hk]

theorem unit1_c (b k : Nat) (l : List Int) (x : Int) (p q : Addr) (w : World) (hq : w.cell? q = some (.func (.func 104) #[] #[.pointer (some p)])) (hp : w.cell? p = some (.map (some b))) (hc : Cnt w b k (cntV l)) :
    Calls Try.prog 89 #[.int .i64 x, .pointer (some q)] w fun e w' => e = .returned (.bool (opP l x)) ∧ w = w' := by
  have hb := varV_bd x
  obtain ⟨hb1, hb2⟩ := hb
  have HC := Lib.hid hc
  have HP := Lib.hid hp
  clear hc hp
  by_cases hv : varV x = 0
  · have HV := Lib.hid hv
    have hvb : ¬ 0 < varV x := by omega
    clear hv
    go_enter Try.func89, Try.ntmps89
    go_wp2_with (go_at_call 67; refine (var_c _ _).mono ?_; rintro e w' ⟨rfl, rfl⟩)
    go_ret
    exact ⟨ret_bool (by simp [opP, HV.out]), rfl⟩
  · have HV := Lib.hid hv
    have hvb : 0 < varV x := by omega
    clear hv
    go_enter Try.func89, Try.ntmps89
    go_wp2_with (first
      | (go_at_call 67; refine (var_c _ _).mono ?_; rintro e w' ⟨rfl, rfl⟩)
      | (go_at_call 104; refine (valuer1_c b k l x p _ HP.out HC.out HV.out).mono ?_; rintro e w' ⟨rfl, rfl⟩))
    go_ret
    exact ⟨ret_bool (by simp [opP, HV.out]; rw [Bool.eq_iff_iff]; simp), rfl⟩

set_option maxHeartbeats 1000000 in
theorem unit_c (A : Option Addr) (n c : Nat) (l : List Int) (A' : Option Addr) (n' c' : Nat) (cl : List Int) (w : World) (h : IntSl w A n l) (h' : IntSl w A' n' cl) (hsm : n ≤ 1000000000000) :
    Calls Try.prog 54 #[.slice A n c, .slice A' n' c'] w fun e w' => e = .returned (.tuple #[.int .i64 (unitU l cl), .bool (unitB l cl)]) ∧ Ext w w' := by
  have b1 := (cnV_bd l cl 1).1
  have b2 := (cnV_bd l cl (-1)).1
  have b3 := (cnV_bd l cl 0).1
  by_cases h1 : 0 < cnV l cl 1
  · have HB := Lib.hid (unitB_not1 (show ¬ cnV l cl 1 = 0 by omega))
    go_enter Try.func54, Try.ntmps54
    go_wp2_with (go_at_call 86; refine (count_c _ _ _ l _ _ _ cl _ h h' hsm).mono ?_; rintro e w1 ⟨rfl, hx1⟩; have HX1 := Lib.hid hx1; clear hx1)
    go_ret2
    exact ⟨ret_ib (by rw [unitU, HB.out]; rfl) HB.out.symm, by repeat (first | exact HX1.out | apply Ext.alloc | apply Ext.setCell)⟩
  · by_cases h0 : cnV l cl 0 = 1
    · have HB := Lib.hid (unitB_of (show cnV l cl 1 = 0 by omega) h0)
      obtain ⟨j, hj, hjlt, hju⟩ := find_first (p := opP l) (xs := cl) (d := 0) (by rw [unit_one h0]; simp)
      have hjn : j < n' := by rw [← h'.1]; exact hjlt
      have HJU := Lib.hid hju
      have h0b : (cnV l cl 0 == 1) = true := by simpa using h0
      have h0b : (cnV l cl 0 != 1) = false := by simpa using h0
      have HJ := Lib.hid hj
      clear hj hju h0
      go_enter Try.func54, Try.ntmps54
      go_wp2_with (go_at_call 86; refine (count_c _ _ _ l _ _ _ cl _ h h' hsm).mono ?_; rintro e w1 ⟨rfl, hx1⟩; have HX1 := Lib.hid hx1; clear hx1)
      refine (valuer_c _ _ _ l _ ?_ hsm).mono ?_
      · exact h.ext (by repeat (first | exact HX1.out | apply Ext.alloc | apply Ext.setCell))
      rintro e w2 ⟨p, b, rfl, hp, hc, hx2⟩
      have HP := Lib.hid hp
      have HC := Lib.hid hc
      have HX2 := Lib.hid hx2
      clear hp hc hx2
      go_wp2_with fail
      have hx12 : Ext w (w2.alloc (Obj.cells #[Value.func (Fn.func 104) #[] #[Value.pointer (some p)]] 54)) := by repeat (first | exact HX1.out | apply Ext.alloc | apply Ext.setCell | refine Ext.trans ?_ HX2.out)
      have HX12 := Lib.hid hx12
      obtain ⟨ad, x, rfl, hx, hcx, hx1, hx2⟩ := (h'.ext hx12).at_ hjn
      clear hx12
      refine (idxFunc_c _ _ _ cl (opP l) _ _ _ (h'.ext HX12.out) enters_unit ?_).mono ?_
      · intro y _
        have hB := Blk.new w2 54 #[Value.func (Fn.func 104) #[] #[Value.pointer (some p)]]
        exact unit1_c b _ l y p _ _ (hB.cell 0) (((Ext.refl _).alloc _).cell HP.out) (HC.out.ext ((Ext.refl _).alloc _))
      rintro e w' ⟨rfl, rfl⟩
      rw [HJ.out]
      go_wp2
      go_ret2
      refine ⟨ret_ib ?_ HB.out.symm, HX12.out⟩
      rw [unitU, HB.out, if_pos rfl, openV]
      have := HJU.out
      rw [hx.out] at this
      exact Option.some.inj this
    · have HB := Lib.hid (unitB_not0 h0)
      have h0b : (cnV l cl 0 == 1) = false := by simpa using h0
      have h0b : (cnV l cl 0 != 1) = true := by simpa using h0
      clear h0
      go_enter Try.func54, Try.ntmps54
      go_wp2_with (go_at_call 86; refine (count_c _ _ _ l _ _ _ cl _ h h' hsm).mono ?_; rintro e w1 ⟨rfl, hx1⟩; have HX1 := Lib.hid hx1; clear hx1)
      go_ret2
      exact ⟨ret_ib (by rw [unitU, HB.out]; rfl) HB.out.symm, by repeat (first | exact HX1.out | apply Ext.alloc | apply Ext.setCell)⟩

/-- What the reference's Unit hands back. -/
theorem rUnit_snoc {l c : List Int} {k : Nat} {x : Int} (hx : c[k]? = some x) : (c.take (k + 1)).filter (opP l) = (c.take k).filter (opP l) ++ if opP l x then [x] else [] := by
  rw [take_succ_of hx, List.filter_append]; congr 1; simp only [List.filter_cons, List.filter_nil]

set_option maxHeartbeats 1000000 in
theorem rUnit_c (A : Option Addr) (n c : Nat) (l : List Int) (A' : Option Addr) (n' c' : Nat) (cl : List Int) (w : World) (h : IntSl w A n l) (h' : IntSl w A' n' cl) :
    Calls Try.prog 56 #[.slice A n c, .slice A' n' c'] w fun e w' => e = .returned (.tuple #[.int .i64 (unitU l cl), .bool (unitB l cl)]) ∧ Ext w w' := by
  have hn' := h'.len
  have b1 := (cnV_bd l cl 1).1
  have b3 := (cnV_bd l cl 0).1
  by_cases h1 : cnV l cl 1 = 0
  · by_cases h0 : cnV l cl 0 = 1
    · have HB := Lib.hid (unitB_of h1 h0)
      have HO := Lib.hid (unit_one h0)
      have h1b : (cnV l cl 1 != 0) = false := by simpa using h1
      have h0b : (cnV l cl 0 != 1) = false := by simpa using h0
      clear h1 h0
      go_enter Try.func56, Try.ntmps56
      go_wp2_with (go_at_call 91; refine (rCount_c _ _ _ l _ _ _ cl _ h h').mono ?_; rintro e w1 ⟨rfl, hx1⟩; have HX1 := Lib.hid hx1; clear hx1)
      go_loop [7, 8] (fun b i => ∃ (k : Nat) (y : Int), k ≤ n' ∧ i = .int .i64 k ∧ b = .int .i64 y ∧ y = ((cl.take k).filter (opP l)).getLastD 0) (fun b i => n' - (intOf i).toNat)
      case atStart => exact ⟨0, 0, Nat.zero_le _, rfl, rfl, rfl⟩
      case round =>
        obtain ⟨k, y, hk, rfl, rfl, hy⟩ := hrel
        have HY := Lib.hid hy
        clear hy
        have hX := (HX1.out.alloc (Obj.cells #[Value.int .i64 (cnV l cl 1), Value.int .i64 (cnV l cl (-1)), Value.int .i64 (cnV l cl 0)] 116))
        have HX := Lib.hid hX
        clear hX
        by_cases hlt : k < n'
        · obtain ⟨ad, x, rfl, hx, hcx, hx1, hx2⟩ := (h'.ext HX.out).at_ hlt
          have HF := Lib.hid (rUnit_snoc (l := l) hx.out)
          have hvi := varV_index x
          by_cases hv : varV x = 0
          · have hi : ¬ 0 ≤ indexV x := by omega
            have HV := Lib.hid hv
            clear hv hvi
            go_wp2_with (first
              | (go_at_call 28; refine (rIndex_c _ _).mono ?_; rintro e w' ⟨rfl, rfl⟩)
              | (go_at_call 90; refine (rValue_c _ _ _ l x _ (h.ext HX.out)).mono ?_; rintro e w' ⟨rfl, rfl⟩))
            go_round
            case rel => exact ⟨k + 1, _, by omega, by go_num, rfl, by rw [HF.out, if_neg (by simp [opP, HV.out]), List.append_nil]; exact HY.out⟩
            case measure => simp [intOf]; omega
          · have hi : 0 ≤ indexV x := by omega
            have HV := Lib.hid hv
            clear hv hvi
            by_cases hz : valueV l x = 0
            · have HZ := Lib.hid hz
              have hzb : (valueV l x == 0) = true := by simpa using hz
              clear hz
              go_wp2_with (first
                | (go_at_call 28; refine (rIndex_c _ _).mono ?_; rintro e w' ⟨rfl, rfl⟩)
                | (go_at_call 90; refine (rValue_c _ _ _ l x _ (h.ext HX.out)).mono ?_; rintro e w' ⟨rfl, rfl⟩))
              go_round
              case rel => exact ⟨k + 1, _, by omega, by go_num, rfl, by rw [HF.out, if_pos (by simp [opP, HV.out, HZ.out])]; simp⟩
              case measure => simp [intOf]; omega
            · have HZ := Lib.hid hz
              have hzb : (valueV l x == 0) = false := by simpa using hz
              clear hz
              go_wp2_with (first
                | (go_at_call 28; refine (rIndex_c _ _).mono ?_; rintro e w' ⟨rfl, rfl⟩)
                | (go_at_call 90; refine (rValue_c _ _ _ l x _ (h.ext HX.out)).mono ?_; rintro e w' ⟨rfl, rfl⟩))
              go_round
              case rel => exact ⟨k + 1, _, by omega, by go_num, rfl, by rw [HF.out, if_neg (by simp [opP, HV.out, HZ.out]), List.append_nil]; exact HY.out⟩
              case measure => simp [intOf]; omega
        · go_wp2
          go_ret2
          refine ⟨ret_ib ?_ HB.out.symm, HX.out⟩
          have := HY.out
          rw [take_len_of h'.1 hlt, HO.out] at this
          rw [unitU, HB.out, if_pos rfl, this]; rfl
    · have HB := Lib.hid (unitB_not0 h0)
      have h1b : (cnV l cl 1 != 0) = false := by simpa using h1
      have h0b : (cnV l cl 0 != 1) = true := by simpa using h0
      clear h1 h0
      go_enter Try.func56, Try.ntmps56
      go_wp2_with (go_at_call 91; refine (rCount_c _ _ _ l _ _ _ cl _ h h').mono ?_; rintro e w1 ⟨rfl, hx1⟩; have HX1 := Lib.hid hx1; clear hx1)
      go_ret2
      exact ⟨ret_ib (by rw [unitU, HB.out]; rfl) HB.out.symm, by repeat (first | exact HX1.out | apply Ext.alloc | apply Ext.setCell)⟩
  · have HB := Lib.hid (unitB_not1 h1)
    have h1b : (cnV l cl 1 != 0) = true := by simpa using h1
    clear h1
    go_enter Try.func56, Try.ntmps56
    go_wp2_with (go_at_call 91; refine (rCount_c _ _ _ l _ _ _ cl _ h h').mono ?_; rintro e w1 ⟨rfl, hx1⟩; have HX1 := Lib.hid hx1; clear hx1)
    go_ret2
    exact ⟨ret_ib (by rw [unitU, HB.out]; rfl) HB.out.symm, by repeat (first | exact HX1.out | apply Ext.alloc | apply Ext.setCell)⟩
end Go.Proofs.Ytdhohoabcokdjaa
