/- Does a clause hold of itself? The opposites of its literals. (The reference's side.) -/
import Derived.Test.YtdgflniahoidmaaGreatAssign1
import Derived.Test.YtdgflniahoidmaaGreatApp
set_option maxRecDepth 100000
namespace Go.Proofs.YtdgflniahoidmaaGreat
open Go.RowKit Go.Maps

/-- Has a clause a literal? -/
def has2V (c : List Int) (x : Int) : Bool := decide (varV x ≠ 0) && hasV c x
def tautP (c : List Int) (x : Int) : Bool := has2V c x && has2V c (negV x)
def tautV (c : List Int) : Bool := c.any (tautP c)

theorem has2_c (A : Option Addr) (n c : Nat) (xs : List Int) (x : Int) (w : World) (h : IntSl w A n xs) :
    Calls Tryz.prog 48 #[.slice A n c, .int .i64 x] w fun e w' => e = .returned (.bool (has2V xs x)) ∧ w = w' := by
  have hvi := varV_index x
  by_cases hv : varV x = 0
  · have hi : ¬ 0 ≤ indexV x := by omega
    have HV := Lib.hid hv
    clear hv hvi
    go_enter Tryz.func48, Tryz.ntmps48
    go_wp2_with (go_at_call 74; refine (rIndex_c _ _).mono ?_; rintro e w' ⟨rfl, rfl⟩)
    go_ret
    exact ⟨ret_bool (by rw [has2V, HV.out]; simp), rfl⟩
  · have hi : 0 ≤ indexV x := by omega
    have HV := Lib.hid hv
    clear hv hvi
    go_enter Tryz.func48, Tryz.ntmps48
    go_wp2_with (first
      | (go_at_call 74; refine (rIndex_c _ _).mono ?_; rintro e w' ⟨rfl, rfl⟩)
      | (go_at_call 63; (with_reducible refine (rHas_c _ _ _ xs _ _ h).mono ?_); rintro e w' ⟨rfl, rfl⟩))
    go_ret
    exact ⟨ret_bool (by rw [has2V, decide_eq_true HV.out, Bool.true_and]), rfl⟩

theorem rTaut_c (A : Option Addr) (n c : Nat) (xs : List Int) (w : World) (h : IntSl w A n xs) :
    Calls Tryz.prog 30 #[.slice A n c] w fun e w' => e = .returned (.bool (tautV xs)) ∧ w = w' := by
  have hn := h.len
  go_enter Tryz.func30, Tryz.ntmps30
  go_wp2
  go_loop [3] (fun i => ∃ k : Nat, k ≤ n ∧ i = .int .i64 k ∧ (xs.take k).any (tautP xs) = false) (fun i => n - (intOf i).toNat)
  case atStart => exact ⟨0, Nat.zero_le _, rfl, rfl⟩
  case round =>
    obtain ⟨k, hk, rfl, hno⟩ := hrel
    have HN := Lib.hid hno
    clear hno
    by_cases hlt : k < n
    · obtain ⟨ad, x, rfl, hy, hc, hx1, hx2⟩ := h.at_ hlt
      have HT := Lib.hid (take_succ_of hy.out)
      cases h1 : has2V xs x with
      | false =>
        have hp : tautP xs x = false := by rw [tautP, h1]; rfl
        have HP := Lib.hid hp
        clear hp
        go_wp2_with (go_at_call 48; (with_reducible refine (has2_c _ _ _ xs _ _ h).mono ?_); rintro e w' ⟨rfl, rfl⟩)
        go_round
        case rel => exact ⟨k + 1, by omega, by go_num, by rw [HT.out, List.any_append, HN.out]; simp [HP.out]⟩
        case measure => simp [intOf]; omega
      | true =>
        cases h2 : has2V xs (negV x) with
        | false =>
          have hp : tautP xs x = false := by rw [tautP, h1, h2]; rfl
          have HP := Lib.hid hp
          clear hp
          go_wp2_with (first
            | (go_at_call 48; (with_reducible refine (has2_c _ _ _ xs _ _ h).mono ?_); rintro e w' ⟨rfl, rfl⟩)
            | (go_at_call 49; refine (rNeg_c _ _).mono ?_; rintro e w' ⟨rfl, rfl⟩))
          go_round
          case rel => exact ⟨k + 1, by omega, by go_num, by rw [HT.out, List.any_append, HN.out]; simp [HP.out]⟩
          case measure => simp [intOf]; omega
        | true =>
          have hp : tautV xs = true := by rw [tautV, List.any_eq_true]; exact ⟨x, List.mem_of_getElem? hy.out, by rw [tautP, h1, h2]; rfl⟩
          have HP := Lib.hid hp
          clear hp
          go_wp2_with (first
            | (go_at_call 48; (with_reducible refine (has2_c _ _ _ xs _ _ h).mono ?_); rintro e w' ⟨rfl, rfl⟩)
            | (go_at_call 49; refine (rNeg_c _ _).mono ?_; rintro e w' ⟨rfl, rfl⟩))
          go_ret
          exact ⟨ret_bool HP.out.symm, rfl⟩
    · go_wp2
      go_ret
      refine ⟨ret_bool ?_, rfl⟩
      have := HN.out
      rw [take_len_of h.1 hlt] at this
      exact this.symm

/-- The opposites of a clause's literals. -/
def oppsV (c : List Int) : List Int := (c.filter fun x => decide (varV x ≠ 0)).map fun x => -x
theorem oppsV_snoc (c : List Int) (x : Int) : oppsV (c ++ [x]) = if varV x ≠ 0 then oppsV c ++ [-x] else oppsV c := by
  unfold oppsV
  rw [List.filter_append]
  by_cases h : varV x = 0 <;> simp [h]
theorem oppsV_len (c : List Int) : (oppsV c).length ≤ c.length := by
  unfold oppsV; rw [List.length_map]; exact List.length_filter_le _ _
theorem oppsV_bd (c : List Int) : ∀ x ∈ oppsV c, -9223372036854775808 ≤ x ∧ x ≤ 9223372036854775807 := by
  intro x hx
  obtain ⟨y, hy, rfl⟩ := List.mem_map.1 hx
  have := (List.mem_filter.1 hy).2
  have := (varV_pos (by simpa using this)).2
  omega


end Go.Proofs.YtdgflniahoidmaaGreat

/- Does a clause hold of itself? (The program's side, by a map.) -/
namespace Go.Proofs.YtdgflniahoidmaaGreat
open Go.RowKit Go.Maps

def seenL (xs : List Int) : List Int := xs.filter fun x => decide (varV x ≠ 0)
theorem seenL_snoc (xs : List Int) (x : Int) : seenL (xs ++ [x]) = if varV x ≠ 0 then seenL xs ++ [x] else seenL xs := by
  unfold seenL
  rw [List.filter_append]
  by_cases h : varV x = 0 <;> simp [h]
theorem seenL_len (xs : List Int) : (seenL xs).length ≤ xs.length := List.length_filter_le _ _
theorem cnt_seen (xs : List Int) (x : Int) : decide (0 < cntV (seenL xs) x) = has2V xs x := by
  rw [hasV_cnt, has2V, hasV, hasV, seenL, List.any_filter]
  by_cases h : varV x = 0
  · rw [show decide (varV x ≠ 0) = false by simp [h], Bool.false_and, List.any_eq_false]
    intro y _ hy
    simp only [Bool.and_eq_true, decide_eq_true_eq, beq_iff_eq] at hy
    exact hy.1 (hy.2 ▸ h)
  · rw [show decide (varV x ≠ 0) = true by simp [h], Bool.true_and]
    congr 1
    funext y
    by_cases e : y = x
    · subst e; simp [h]
    · simp [e]
theorem tautP_neg {xs : List Int} {x : Int} (h : has2V xs x = true) : -100000 ≤ x ∧ x ≤ 100000 ∧ negV x = -x := by
  have hv : varV x ≠ 0 := by
    unfold has2V at h
    simp only [Bool.and_eq_true, decide_eq_true_eq] at h
    exact h.1
  obtain ⟨_, h1, h2⟩ := varV_pos hv
  exact ⟨h1, h2, by rw [negV, if_pos ⟨h1, h2⟩]⟩

/-- What seen hands back. -/
def RetSeen (xs : List Int) (w : World) (e : Ending) (w' : World) : Prop :=
  ∃ b, e = .returned (.map (some b)) ∧ Cnt w' b xs.length (cntV (seenL xs)) ∧ Ext w w'

set_option maxHeartbeats 1000000 in
theorem seen_c (A : Option Addr) (n c : Nat) (xs : List Int) (w : World) (h : IntSl w A n xs) (hsm : n ≤ 1000000000) :
    Calls Tryz.prog 59 #[.slice A n c] w (RetSeen xs w) := by
  have hmm := fun (n : Int) (W : World) => run_makeMap_hint (P := Tryz.prog) 94 3 3 .i64 n Tryz.underlying94 W
  go_enter Tryz.func59, Tryz.ntmps59
  go_wp2
  go_loopw [11] (fun i wr => ∃ (k : Nat) (cs : List Int), cs = seenL (xs.take k) ∧ k ≤ n ∧ i = .int .i64 k ∧ Cnt wr w.heap.size k (cntV cs) ∧ Ext w wr) (fun i _ => n - (intOf i).toNat)
  case atStart => exact ⟨0, [], rfl, Nat.zero_le _, rfl, by rw [cntV_nil]; exact Cnt.made w, (Ext.refl _).alloc _⟩
  case round =>
    obtain ⟨k, cs, hcs, hk, rfl, hc, hx⟩ := hrel
    have hbl : cs.length ≤ k := by rw [hcs]; have := seenL_len (xs.take k); have := List.length_take_le k xs; omega
    have HCS := Lib.hid hcs
    have HC := Lib.hid hc
    have HX := Lib.hid hx
    clear hcs hc hx
    by_cases hlt : k < n
    · obtain ⟨ad, x, rfl, hx, hcx, hx1, hx2⟩ := (h.ext HX.out).at_ hlt
      have HT := Lib.hid (take_succ_of hx.out)
      have HS := Lib.hid (seenL_snoc (xs.take k) x)
      obtain ⟨hvb1, hvb2⟩ := varV_bd x
      obtain ⟨hb1, hb2⟩ := cntV_bd cs x
      by_cases hv : varV x = 0
      · have hvb : ¬ 0 < varV x := by omega
        have HV := Lib.hid hv
        clear hv
        go_wp2_with (go_at_call 85; refine (var_c _ _).mono ?_; rintro e w' ⟨rfl, rfl⟩)
        go_roundw
        case rel => exact ⟨k + 1, cs, by rw [HT.out, HS.out, if_neg (by simp [HV.out])]; exact HCS.out, by omega, by go_num, HC.out.mono (by omega), HX.out⟩
        case measure => simp [intOf]; omega
      · have hvb : 0 < varV x := by omega
        have HV := Lib.hid hv
        clear hv
        go_wp2_with (first
          | (go_at_call 85; refine (var_c _ _).mono ?_; rintro e w' ⟨rfl, rfl⟩)
          | (at_lookup; refine wpList_look _ rfl _ _ rfl _ _ _ rfl HC.out _ rfl ⟨hx1, hx2⟩ ?_)
          | (at_mapUpdate; refine wpList_setm _ rfl _ _ _ rfl _ _ _ rfl HC.out (by omega) _ _ rfl rfl ⟨hx1, hx2⟩ (by omega) ?_; intro w2 hc2 hg2; rw [cntV_snoc] at hc2; have HC2 := Lib.hid hc2; have HG2 := Lib.hid hg2; clear hc2 hg2))
        go_roundw
        case rel => exact ⟨k + 1, cs ++ [x], by rw [HT.out, HS.out, if_pos HV.out, HCS.out], by omega, by go_num, HC2.out, HX.out.grown HG2.out (fun j hj => by cases hj; exact Nat.le_refl _)⟩
        case measure => simp [intOf]; omega
    · go_wp2
      go_ret
      refine ⟨_, rfl, ?_, HX.out⟩
      have e := HCS.out
      rw [take_len_of h.1 hlt] at e
      rw [← e]
      exact HC.out.mono (by have := h.1; omega)

theorem taut1_c (b k : Nat) (xs : List Int) (x : Int) (q : Addr) (w : World) (hx1 : -9223372036854775808 ≤ x) (hx2 : x ≤ 9223372036854775807) (hq : w.cell? q = some (.map (some b))) (hc : Cnt w b k (cntV (seenL xs))) :
    Calls Tryz.prog 61 #[.int .i64 x, .pointer (some q)] w fun e w' => e = .returned (.bool (tautP xs x)) ∧ w = w' := by
  have HC := Lib.hid hc
  clear hc
  have HE := Lib.hid (cnt_seen xs x)
  have HE2 := Lib.hid (cnt_seen xs (-x))
  cases h1 : has2V xs x with
  | false =>
    have hd : decide (0 < cntV (seenL xs) x) = false := by rw [HE.out]; exact h1
    have HP : Hid (tautP xs x = false) := by unfold Hid; rw [tautP, h1]; rfl
    clear h1
    go_enter Tryz.func61, Tryz.ntmps61
    go_wp2_with (at_lookup; refine wpList_look _ rfl _ _ rfl _ _ _ rfl HC.out _ rfl ⟨hx1, hx2⟩ ?_)
    go_ret
    exact ⟨ret_bool HP.out.symm, rfl⟩
  | true =>
    obtain ⟨hxa, hxb, hneg⟩ := tautP_neg h1
    have hd : decide (0 < cntV (seenL xs) x) = true := by rw [HE.out]; exact h1
    have HP : Hid (tautP xs x = decide (0 < cntV (seenL xs) (-x))) := by unfold Hid; rw [tautP, h1, hneg, HE2.out]; rfl
    clear h1 hneg
    have hl1 := HC.out.run x ⟨hx1, hx2⟩
    have hl2 := HC.out.run (-x) (by omega)
    go_enter Tryz.func61, Tryz.ntmps61
    go_wp2
    go_ret
    exact ⟨ret_bool HP.out.symm, rfl⟩

theorem taut_c (A : Option Addr) (n c : Nat) (xs : List Int) (w : World) (h : IntSl w A n xs) (hsm : n ≤ 1000000000) :
    Calls Tryz.prog 38 #[.slice A n c] w fun e w' => e = .returned (.bool (tautV xs)) ∧ Ext w w' := by
  go_enter Tryz.func38, Tryz.ntmps38
  go_wp2_with fail
  refine (seen_c _ _ _ xs _ h hsm).mono ?_
  rintro e w1 ⟨b, rfl, hC, hx⟩
  go_wp2_with fail
  have hX := hx.alloc (Obj.cells #[.map (some b)] 94)
  have hC2 := hC.ext ((Ext.refl w1).alloc (Obj.cells #[.map (some b)] 94))
  have hQ := (Blk.new w1 94 #[.map (some b)]).cell 0
  refine (containsFunc_c _ _ _ xs (tautP xs) _ _ _ (h.ext hX) enters_taut ?_).mono ?_
  · intro x hxm
    obtain ⟨h1, h2⟩ := h.2.2.1 x hxm
    exact taut1_c b _ xs x _ _ h1 h2 hQ hC2
  rintro e w' ⟨rfl, rfl⟩
  go_wp2
  go_ret
  exact ⟨rfl, hX⟩
end Go.Proofs.YtdgflniahoidmaaGreat
