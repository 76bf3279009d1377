/- Layer 8 (rup): Start, and the reference's. -/
import Derived.Test.YtdhohoabcokdjaaRupP
import Derived.Test.YtdhohoabcokdjaaAssign6
import Derived.Test.YtdhohoabcokdjaaTaut2
import Derived.Test.YtdhohoabcokdjaaClone
import Derived.Test.YtdhohoabcokdjaaFirst0
import Derived.Test.YtdhohoabcokdjaaOwn0
import Derived.ArgAppend
set_option maxRecDepth 100000
namespace Go.Proofs.Ytdhohoabcokdjaa
open Go.RowKit

/-- It hands back literals that the call owns, and an error. -/
def RetOwnE (xs : List Int) (code : Int) (w : World) (e : Ending) (w' : World) : Prop := ∃ v, e = .returned (.tuple #[v, .int .i64 code]) ∧ OwnI w' w.heap.size v xs ∧ Ext w w'

set_option maxHeartbeats 2000000 in
theorem rupStart_c (A : Option Addr) (n c : Nat) (xs : List Int) (w : World) (h : IntSl w A n xs) (hsm : n ≤ 1000000000) :
    Calls Try.prog 13 #[.slice A n c] w (RetOwnE (startV xs) (startE xs) w) := by
  go_enter Try.func13, Try.ntmps13
  go_wp2
  go_loopw [4, 10] (fun v i wr => ∃ k : Nat, k ≤ n ∧ i = .int .i64 k ∧ OwnI wr w.heap.size v (startL [] (xs.take k)) ∧ badV (xs.take k) = false ∧ Ext w wr) (fun _ i _ => n - (intOf i).toNat)
  case atStart => exact ⟨0, Nat.zero_le _, rfl, OwnI.nil _ _, rfl, Ext.refl _⟩
  case round =>
    obtain ⟨k, hk, rfl, ho, hbd, hx⟩ := hrel
    have hsz := hx.size_le
    have hl1 := startL_len (xs.take k) []
    have hl2 : (xs.take k).length ≤ k := List.length_take_le _ _
    have HLL : Hid ((startL [] (xs.take k)).length ≤ 1000000000) := by unfold Hid; simp at hl1; omega
    have hbs := startL_bd hbd
    have HBS := Lib.hid hbs
    have HB := Lib.hid hbd
    have HO := Lib.hid ho
    have HX := Lib.hid hx
    clear hl1 hl2 hbs hbd hx
    obtain ⟨Ao, no, co, rfl, hso⟩ := ho.sl (by have := HLL.out; omega) (fun x hx => by have := HBS.out x hx; omega)
    have HSO := Lib.hid hso
    clear ho hso
    by_cases hlt : k < n
    · obtain ⟨ad, x, rfl, hx1, hcx, hxa, hxb⟩ := (h.ext HX.out).at_ hlt
      have HT := Lib.hid (take_succ_of hx1.out)
      have HS : Hid (startL [] (xs.take (k + 1)) = if hasV (startL [] (xs.take k)) (-x) then startL [] (xs.take k) else startL [] (xs.take k) ++ [-x]) := by unfold Hid; rw [HT.out, startL_snoc]
      rcases (show (varV x = 0 ∧ negV x = 0) ∨ (varV x ≠ 0 ∧ negV x = -x ∧ negV x ≠ 0) from by unfold varV negV; (repeat (first | omega | split))) with ⟨hv, hz⟩ | ⟨hv, hz, hz2⟩
      · have HV : Hid (startV xs = [] ∧ startE xs = 10) := by unfold Hid startV startE; rw [badV_hit hx1.out hv]; exact ⟨rfl, rfl⟩
        have HZ := Lib.hid hz
        clear hv hz
        go_wp2_with (go_at_call 48; refine (neg_c _ _).mono ?_; rintro e w' ⟨rfl, rfl⟩; rw [HZ.out])
        go_ret2
        exact ⟨_, by rw [HV.out.2]; rfl, by rw [HV.out.1]; exact OwnI.nil _ _, HX.out⟩
      · obtain ⟨_, hx3, hx4⟩ := varV_pos hv
        have hnz : (-x == 0) = false := by rw [beq_eq_false_iff_ne]; omega
        have hnz2 : (x == 0) = false := by rw [beq_eq_false_iff_ne]; omega
        have hnz3 : ¬ x = 0 := by omega
        have HBN := Lib.hid (badV_take HB.out hx1.out hv)
        have HZ := Lib.hid hz
        clear hv hz hz2
        cases hh : hasV (startL [] (xs.take k)) (-x)
        · have HH := Lib.hid hh
          clear hh
          go_wp2_with (first
            | (go_at_call 48; refine (neg_c _ _).mono ?_; rintro e w' ⟨rfl, rfl⟩; rw [HZ.out])
            | (go_at_call 49; (with_reducible refine (contains_c _ _ _ _ (-x) _ HSO.out).mono ?_); rintro e w' ⟨rfl, rfl⟩; rw [HH.out])
            | (at_builtin; refine append1 _ rfl (.tmp 22) (.tmp 24) rfl w.heap.size _ _ rfl (HO.out.alloc _) _ _ _ rfl (cell_one _ _ _) (by omega) (by have := HLL.out; omega) (by simp; omega) ?_; intro v' w2 ho2 hg2 _; have HO2 := Lib.hid ho2; have HG2 := Lib.hid hg2; clear ho2 hg2))
          go_roundw
          case rel => exact ⟨k + 1, by omega, by go_num, by rw [HS.out, HH.out]; exact HO2.out, HBN.out, Ext.grown (HX.out.alloc _) HG2.out (fun j hj => (HO.out.blk j hj).1)⟩
          case measure => simp [intOf]; omega
        · have HH := Lib.hid hh
          clear hh
          go_wp2_with (first
            | (go_at_call 48; refine (neg_c _ _).mono ?_; rintro e w' ⟨rfl, rfl⟩; rw [HZ.out])
            | (go_at_call 49; (with_reducible refine (contains_c _ _ _ _ (-x) _ HSO.out).mono ?_); rintro e w' ⟨rfl, rfl⟩; rw [HH.out]))
          go_roundw
          case rel => exact ⟨k + 1, by omega, by go_num, by rw [HS.out, HH.out]; exact HO.out, HBN.out, HX.out⟩
          case measure => simp [intOf]; omega
    · have hb := HB.out
      have ho := HO.out
      rw [take_len_of h.1 hlt] at hb ho
      have HB2 := Lib.hid hb
      have HO2 := Lib.hid ho
      clear hb ho
      cases ht : tautV xs
      · have HV : Hid (startV xs = startL [] xs ∧ startE xs = 0) := by unfold Hid startV startE; rw [HB2.out, ht]; exact ⟨rfl, rfl⟩
        have HT := Lib.hid ht
        clear ht
        go_wp2_with (go_at_call 50; (with_reducible refine (taut_c _ _ _ xs _ (h.ext HX.out) hsm).mono ?_); rintro e w1 ⟨rfl, hx⟩; rw [HT.out])
        go_ret2
        exact ⟨_, by rw [HV.out.2]; rfl, by rw [HV.out.1]; exact HO2.out.ext hx, HX.out.trans hx⟩
      · have HV : Hid (startV xs = [] ∧ startE xs = 11) := by unfold Hid startV startE; rw [HB2.out, ht]; exact ⟨rfl, rfl⟩
        have HT := Lib.hid ht
        clear ht
        go_wp2_with (go_at_call 50; (with_reducible refine (taut_c _ _ _ xs _ (h.ext HX.out) hsm).mono ?_); rintro e w1 ⟨rfl, hx⟩; rw [HT.out])
        go_ret2
        exact ⟨_, by rw [HV.out.2]; rfl, by rw [HV.out.1]; exact OwnI.nil _ _, HX.out.trans hx⟩

set_option maxHeartbeats 2000000 in
theorem rRupStart_c (A : Option Addr) (n c : Nat) (xs : List Int) (w : World) (h : IntSl w A n xs) (hc : n ≤ c) (hsm : n ≤ 1000000000) :
    Calls Try.prog 14 #[.slice A n c] w (RetOwnE (startV xs) (startE xs) w) := by
  go_enter Try.func14, Try.ntmps14
  go_wp2
  go_loop [4] (fun i => ∃ k : Nat, k ≤ n ∧ i = .int .i64 k ∧ badV (xs.take k) = false) (fun i => n - (intOf i).toNat)
  case atStart => exact ⟨0, Nat.zero_le _, rfl, rfl⟩
  case round =>
    obtain ⟨k, hk, rfl, hbd⟩ := hrel
    have HB := Lib.hid hbd
    clear hbd
    by_cases hlt : k < n
    · obtain ⟨ad, x, rfl, hx1, hcx, hxa, hxb⟩ := h.at_ hlt
      have hvi := varV_index x
      by_cases hv : varV x = 0
      · have hi : indexV x < 0 := by omega
        have HV : Hid (startV xs = [] ∧ startE xs = 10) := by unfold Hid startV startE; rw [badV_hit hx1.out hv]; exact ⟨rfl, rfl⟩
        clear hv hvi
        go_wp2_with (go_at_call 28; refine (rIndex_c _ _).mono ?_; rintro e w' ⟨rfl, rfl⟩)
        go_ret2
        exact ⟨_, by rw [HV.out.2]; rfl, by rw [HV.out.1]; exact OwnI.nil _ _, Ext.refl _⟩
      · have hi : ¬ indexV x < 0 := by have := hvi.2 hv; omega
        have HBN := Lib.hid (badV_take HB.out hx1.out hv)
        clear hv hvi
        go_wp2_with (go_at_call 28; refine (rIndex_c _ _).mono ?_; rintro e w' ⟨rfl, rfl⟩)
        go_round
        case rel => exact ⟨k + 1, by omega, by go_num, HBN.out⟩
        case measure => simp [intOf]; omega
    · have hb := HB.out
      rw [take_len_of h.1 hlt] at hb
      have HB2 := Lib.hid hb
      clear hb
      cases ht : tautV xs
      · have HV : Hid (startV xs = startL [] xs ∧ startE xs = 0) := by unfold Hid startV startE; rw [HB2.out, ht]; exact ⟨rfl, rfl⟩
        have HT := Lib.hid ht
        clear ht
        go_wp2_with (go_at_call 51; (with_reducible refine (rTaut_c _ _ _ xs _ h).mono ?_); rintro e w' ⟨rfl, rfl⟩; rw [HT.out])
        go_loopw [5, 6] (fun v i wr => ∃ k : Nat, k ≤ n ∧ i = .int .i64 k ∧ OwnI wr w.heap.size v (startL [] (xs.take k)) ∧ Ext w wr) (fun _ i _ => n - (intOf i).toNat)
        case atStart => exact ⟨0, Nat.zero_le _, rfl, OwnI.nil _ _, Ext.refl _⟩
        case round =>
          obtain ⟨j, hj, rfl, ho, hx⟩ := hrel
          have hsz := hx.size_le
          have hl1 := startL_len (xs.take j) []
          have hl2 : (xs.take j).length ≤ j := List.length_take_le _ _
          have HLL : Hid ((startL [] (xs.take j)).length + 1 ≤ 10000000000000) := by unfold Hid; simp at hl1; omega
          have HO := Lib.hid ho
          have HX := Lib.hid hx
          clear hl1 hl2 ho hx
          by_cases hjt : j < n
          · obtain ⟨ad, x, rfl, hx1, hcx, hxa, hxb⟩ := (h.ext HX.out).at_ hjt
            have HTT := Lib.hid (take_succ_of hx1.out)
            have HS : Hid (startL [] (xs.take (j + 1)) = if hasV (xs.take j) x then startL [] (xs.take j) else startL [] (xs.take j) ++ [-x]) := by unfold Hid; rw [HTT.out, startL_snoc]; dsimp only; rw [has_start]
            have hvx := varV_pos (badV_mem HB2.out x (List.mem_of_getElem? hx1.out))
            obtain ⟨_, hx3, hx4⟩ := hvx
            have b0 : (0 : Int) ≤ (j : Int) := by omega
            have b1 : (j : Int) < (n : Int) := by omega
            have b2 : (j : Int) ≤ (c : Int) := by omega
            have q1 : ∀ m, Calls Try.prog 29 #[.slice (some ad) j c, .int .i64 x] (wr.drewN m) fun e w' => e = .returned (.bool (hasV (xs.take j) x)) ∧ wr.drewN m = w' := fun m => rHas_c _ _ _ (xs.take j) x _ ((((h.ext HX.out).ext ((Ext.refl _).drewN m)).take (by omega)))
            cases hh : hasV (xs.take j) x
            · rw [hh] at q1
              have HH := Lib.hid hh
              clear hh
              go_wp2
              go_quiet ((go_at_call 29; with_reducible exact quiet_left (q1 _)))
              go_wp2_with (at_builtin; refine append1 _ rfl (.tmp 36) (.tmp 42) rfl w.heap.size _ _ rfl ((HO.out.drewN _).alloc _) _ _ _ rfl (cell_one _ _ _) (by omega) HLL.out (by simp; omega) ?_; intro v' w2 ho2 hg2 _; have HO2 := Lib.hid ho2; have HG2 := Lib.hid hg2; clear ho2 hg2)
              go_roundw
              case rel => exact ⟨j + 1, by omega, by go_num, by rw [HS.out, HH.out]; exact HO2.out, Ext.grown ((HX.out.drewN _).alloc _) HG2.out (fun q hq => (HO.out.blk q hq).1)⟩
              case measure => simp [intOf]; omega
            · rw [hh] at q1
              have HH := Lib.hid hh
              clear hh
              go_wp2
              go_quiet ((go_at_call 29; with_reducible exact quiet_left (q1 _)))
              go_wp2
              go_roundw
              case rel => exact ⟨j + 1, by omega, by go_num, by rw [HS.out, HH.out]; exact HO.out.drewN _, HX.out.drewN _⟩
              case measure => simp [intOf]; omega
          · have ho := HO.out
            rw [take_len_of h.1 hjt] at ho
            have HO2 := Lib.hid ho
            clear ho
            go_wp2
            go_ret2
            exact ⟨_, by rw [HV.out.2]; rfl, by rw [HV.out.1]; exact HO2.out, HX.out⟩
      · have HV : Hid (startV xs = [] ∧ startE xs = 11) := by unfold Hid startV startE; rw [HB2.out, ht]; exact ⟨rfl, rfl⟩
        have HT := Lib.hid ht
        clear ht
        go_wp2_with (go_at_call 51; (with_reducible refine (rTaut_c _ _ _ xs _ h).mono ?_); rintro e w' ⟨rfl, rfl⟩; rw [HT.out])
        go_ret2
        exact ⟨_, by rw [HV.out.2]; rfl, by rw [HV.out.1]; exact OwnI.nil _ _, Ext.refl _⟩
end Go.Proofs.Ytdhohoabcokdjaa
