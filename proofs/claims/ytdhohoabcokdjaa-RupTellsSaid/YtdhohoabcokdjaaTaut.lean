/- Does a clause hold of itself? The opposites of its literals. (The reference's side.) -/
import Derived.Test.YtdhohoabcokdjaaAssign1
import Derived.Test.YtdhohoabcokdjaaApp
set_option maxRecDepth 100000
namespace Go.Proofs.Ytdhohoabcokdjaa
open Go.RowKit Go.Maps

/-- Has a clause a literal? -/
def has2V (c : List Int) (x : Int) : Bool := decide (varV x ≠ 0) && hasV c x
def tautP (c : List Int) (x : Int) : Bool := has2V c x && has2V c (negV x)
def tautV (c : List Int) : Bool := c.any (tautP c)

theorem has2_c (A : Option Addr) (n c : Nat) (xs : List Int) (x : Int) (w : World) (h : IntSl w A n xs) :
    Calls Try.prog 84 #[.slice A n c, .int .i64 x] w fun e w' => e = .returned (.bool (has2V xs x)) ∧ w = w' := by
  have hvi := varV_index x
  by_cases hv : varV x = 0
  · have hi : ¬ 0 ≤ indexV x := by omega
    have HV := Lib.hid hv
    clear hv hvi
    go_enter Try.func84, Try.ntmps84
    go_wp2_with (go_at_call 28; refine (rIndex_c _ _).mono ?_; rintro e w' ⟨rfl, rfl⟩)
    go_ret
    exact ⟨ret_bool (by rw [has2V, HV.out]; simp), rfl⟩
  · have hi : 0 ≤ indexV x := by omega
    have HV := Lib.hid hv
    clear hv hvi
    go_enter Try.func84, Try.ntmps84
    go_wp2_with (first
      | (go_at_call 28; refine (rIndex_c _ _).mono ?_; rintro e w' ⟨rfl, rfl⟩)
      | (go_at_call 29; (with_reducible refine (rHas_c _ _ _ xs _ _ h).mono ?_); rintro e w' ⟨rfl, rfl⟩))
    go_ret
    exact ⟨ret_bool (by rw [has2V, decide_eq_true HV.out, Bool.true_and]), rfl⟩

theorem rTaut_c (A : Option Addr) (n c : Nat) (xs : List Int) (w : World) (h : IntSl w A n xs) :
    Calls Try.prog 51 #[.slice A n c] w fun e w' => e = .returned (.bool (tautV xs)) ∧ w = w' := by
  have hn := h.len
  go_enter Try.func51, Try.ntmps51
  go_wp2
  go_loop [3] (fun i => ∃ k : Nat, k ≤ n ∧ i = .int .i64 k ∧ (xs.take k).any (tautP xs) = false) (fun i => n - (intOf i).toNat)
  case atStart => exact ⟨0, Nat.zero_le _, rfl, rfl⟩
  case round =>
    obtain ⟨k, hk, rfl, hno⟩ := hrel
    have HN := Lib.hid hno
    clear hno
    by_cases hlt : k < n
    · obtain ⟨ad, x, rfl, hy, hc, hx1, hx2⟩ := h.at_ hlt
      have HT := Lib.hid (take_succ_of hy.out)
      cases h1 : has2V xs x with
      | false =>
        have hp : tautP xs x = false := by rw [tautP, h1]; rfl
        have HP := Lib.hid hp
        clear hp
        go_wp2_with (go_at_call 84; (with_reducible refine (has2_c _ _ _ xs _ _ h).mono ?_); rintro e w' ⟨rfl, rfl⟩)
        go_round
        case rel => exact ⟨k + 1, by omega, by go_num, by rw [HT.out, List.any_append, HN.out]; simp [HP.out]⟩
        case measure => simp [intOf]; omega
      | true =>
        cases h2 : has2V xs (negV x) with
        | false =>
          have hp : tautP xs x = false := by rw [tautP, h1, h2]; rfl
          have HP := Lib.hid hp
          clear hp
          go_wp2_with (first
            | (go_at_call 84; (with_reducible refine (has2_c _ _ _ xs _ _ h).mono ?_); rintro e w' ⟨rfl, rfl⟩)
            | (go_at_call 85; refine (rNeg_c _ _).mono ?_; rintro e w' ⟨rfl, rfl⟩))
          go_round
          case rel => exact ⟨k + 1, by omega, by go_num, by rw [HT.out, List.any_append, HN.out]; simp [HP.out]⟩
          case measure => simp [intOf]; omega
        | true =>
          have hp : tautV xs = true := by rw [tautV, List.any_eq_true]; exact ⟨x, List.mem_of_getElem? hy.out, by rw [tautP, h1, h2]; rfl⟩
          have HP := Lib.hid hp
          clear hp
          go_wp2_with (first
            | (go_at_call 84; (with_reducible refine (has2_c _ _ _ xs _ _ h).mono ?_); rintro e w' ⟨rfl, rfl⟩)
            | (go_at_call 85; refine (rNeg_c _ _).mono ?_; rintro e w' ⟨rfl, rfl⟩))
          go_ret
          exact ⟨ret_bool HP.out.symm, rfl⟩
    · go_wp2
      go_ret
      refine ⟨ret_bool ?_, rfl⟩
      have := HN.out
      rw [take_len_of h.1 hlt] at this
      exact this.symm

/-- The opposites of a clause's literals. -/
def oppsV (c : List Int) : List Int := (c.filter fun x => decide (varV x ≠ 0)).map fun x => -x
theorem oppsV_snoc (c : List Int) (x : Int) : oppsV (c ++ [x]) = if varV x ≠ 0 then oppsV c ++ [-x] else oppsV c := by
  unfold oppsV
  rw [List.filter_append]
  by_cases h : varV x = 0 <;> simp [h]
theorem oppsV_len (c : List Int) : (oppsV c).length ≤ c.length := by
  unfold oppsV; rw [List.length_map]; exact List.length_filter_le _ _
theorem oppsV_bd (c : List Int) : ∀ x ∈ oppsV c, -9223372036854775808 ≤ x ∧ x ≤ 9223372036854775807 := by
  intro x hx
  obtain ⟨y, hy, rfl⟩ := List.mem_map.1 hx
  have := (List.mem_filter.1 hy).2
  have := (varV_pos (by simpa using this)).2
  omega

set_option maxHeartbeats 1000000 in
theorem opposites_c (A : Option Addr) (n c : Nat) (xs : List Int) (w : World) (h : IntSl w A n xs) (hsm : n ≤ 1000000000) :
    Calls Try.prog 61 #[.slice A n c] w (RetInts (oppsV xs) w) := by
  go_enter Try.func61, Try.ntmps61
  go_wp2
  go_loopw [3, 4] (fun v i wr => ∃ k : Nat, k ≤ n ∧ i = .int .i64 k ∧ OwnI wr w.heap.size v (oppsV (xs.take k)) ∧ Ext w wr) (fun _ i _ => n - (intOf i).toNat)
  case atStart => exact ⟨0, Nat.zero_le _, rfl, OwnI.nil _ _, Ext.refl w⟩
  case round =>
    obtain ⟨k, hk, rfl, hown, hx⟩ := hrel
    have HO := Lib.hid hown
    have HX := Lib.hid hx
    have hsz := hx.size_le
    have hl1 := oppsV_len (xs.take k)
    have hl2 : (xs.take k).length ≤ k := List.length_take_le _ _
    have hl : (oppsV (xs.take k)).length ≤ 1000000000 := by omega
    have HL := Lib.hid hl
    clear hown hx hl1 hl2 hl
    by_cases hlt : k < n
    · obtain ⟨ad, x, rfl, hx, hcx, hx1, hx2⟩ := (h.ext HX.out).at_ hlt
      have HT := Lib.hid (take_succ_of hx.out)
      have HS := Lib.hid (oppsV_snoc (xs.take k) x)
      have hvi := varV_index x
      by_cases hv : varV x = 0
      · have hi : ¬ 0 ≤ indexV x := by omega
        have HV := Lib.hid hv
        clear hv hvi
        go_wp2_with (go_at_call 28; refine (rIndex_c _ _).mono ?_; rintro e w' ⟨rfl, rfl⟩)
        go_roundw
        case rel => exact ⟨k + 1, by omega, by go_num, by rw [HT.out, HS.out, if_neg (by simp [HV.out])]; exact HO.out, HX.out⟩
        case measure => simp [intOf]; omega
      · obtain ⟨_, hxa, hxb⟩ := varV_pos hv
        have hi : 0 ≤ indexV x := by omega
        have HV := Lib.hid hv
        clear hv hvi
        go_wp2_with (first
          | (go_at_call 28; refine (rIndex_c _ _).mono ?_; rintro e w' ⟨rfl, rfl⟩)
          | (at_builtin; refine append1 _ rfl _ _ rfl w.heap.size _ _ rfl (HO.out.alloc _) _ _ _ rfl (cell_one _ _ _) (by omega) (by have := HL.out; omega) (by simp; omega) ?_; intro v' w2 ho2 hg2 _; have HO2 := Lib.hid ho2; have HG2 := Lib.hid hg2; clear ho2 hg2))
        go_roundw
        case rel => exact ⟨k + 1, by omega, by go_num, by rw [HT.out, HS.out, if_pos HV.out]; exact HO2.out, Below.grown (HX.out.alloc _) HG2.out (by simp; omega) (fun j hj => (HO.out.blk j hj).1)⟩
        case measure => simp [intOf]; omega
    · have ho := HO.out
      have hl := HL.out
      rw [take_len_of h.1 hlt] at ho hl
      obtain ⟨A', n', c', rfl, hs⟩ := ho.sl (by omega) (oppsV_bd xs)
      have HSL := Lib.hid hs
      clear ho hl hs
      go_wp2
      go_ret
      exact ⟨A', n', c', rfl, HSL.out, HX.out⟩
end Go.Proofs.Ytdhohoabcokdjaa
