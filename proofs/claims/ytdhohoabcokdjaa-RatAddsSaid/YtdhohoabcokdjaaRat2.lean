/- Layer 9 (rat): Flip, Show. -/
import Derived.Test.YtdhohoabcokdjaaRat1
import Derived.Test.YtdhohoabcokdjaaStill
set_option maxRecDepth 100000
namespace Go.Proofs.Ytdhohoabcokdjaa
open Go.RowKit

/-! ### Flip -/
theorem run_eql_slB_nil (A : Option Addr) (n c : Nat) (w : World) : (binOp .eql 45 (.slice A n c) (.slice none 0 0)).run Try.prog w = .ok (.bool A.isNone) w := by
  simp only [binOp]
  simp [run_equal_slice_nil w 45 4 A n c Try.underlying45]
/-- It hands back truths of its own. -/
def RetNB (m : List Bool) (w : World) (e : Ending) (w' : World) : Prop := ∃ A c, e = .returned (.slice A m.length c) ∧ NB w' w.heap.size A m.length m ∧ Ext w w'

theorem cloneNB_c (A : Option Addr) (n c : Nat) (m : List Bool) (w : World) (h : BoolSl w A n m) (hsm : n ≤ 1000000000000) :
    Calls Try.prog 66 #[.slice A n c] w (RetNB m w) := by
  cases A with
  | none =>
    have hn : n = 0 := by
      rcases Nat.eq_zero_or_pos n with e | e
      · exact e
      · obtain ⟨ad, e, _⟩ := h.2.2 e
        cases e
    subst hn
    have hx : m = [] := List.eq_nil_of_length_eq_zero h.1
    subst hx
    have he1 := fun (c : Nat) (W : World) => run_eql_slB_nil none 0 c W
    go_enter Try.func66, Try.ntmps66
    go_wp2
    go_ret
    exact ⟨none, 0, rfl, ⟨rfl, fun h => absurd h (by decide)⟩, Ext.refl _⟩
  | some ad =>
    have he1 := fun (W : World) => run_eql_slB_nil (some ad) n c W
    go_enter Try.func66, Try.ntmps66
    go_wp2_with (at_builtin; refine appendNB w rfl (.tmp 5) (.tmp 6) rfl rfl _ _ _ m rfl h (by omega) ?_; intro A7 c7 w7 hnb7 hx7; have HNB7 := Lib.hid hnb7; have HX7 := Lib.hid hx7; clear hnb7 hx7)
    go_ret
    exact ⟨_, _, rfl, HNB7.out, HX7.out⟩

def flip1 (mm : List Bool) (x : Int) : List Bool := if 1 ≤ varV x ∧ varV x ≤ mm.length then mm.set (varV x - 1).toNat (decide (0 < x)) else mm
def flipV (m : List Bool) (xs : List Int) : List Bool := xs.foldl flip1 m
theorem flipV_snoc (m : List Bool) (xs : List Int) (x : Int) : flipV m (xs ++ [x]) = flip1 (flipV m xs) x := by simp [flipV]
theorem flip1_len (mm : List Bool) (x : Int) : (flip1 mm x).length = mm.length := by unfold flip1; split <;> simp
theorem flipV_len : ∀ (xs : List Int) (m : List Bool), (flipV m xs).length = m.length
  | [], _ => rfl
  | x :: xs, m => (flipV_len xs (flip1 m x)).trans (flip1_len m x)

set_option maxHeartbeats 1000000 in
theorem flip_c (A : Option Addr) (n c : Nat) (m : List Bool) (A1 : Option Addr) (n1 c1 : Nat) (xs : List Int) (w : World) (h : BoolSl w A n m) (h1 : IntSl w A1 n1 xs) (hsm : n ≤ 1000000000000) :
    Calls Try.prog 31 #[.slice A n c, .slice A1 n1 c1] w (fun e w' => ∃ A c, e = .returned (.slice A m.length c) ∧ NB w' w.heap.size A m.length (flipV m xs) ∧ Ext w w') := by
  have HM := Lib.hid h.1
  have HL1 := Lib.hid h1.1
  have hn1 := h1.2.1
  go_enter Try.func31, Try.ntmps31
  go_wp2_with fail
  refine (cloneNB_c _ _ _ m _ h hsm).mono ?_
  rintro e w1 ⟨A7, c7, rfl, hv, hx1⟩
  have hml : m.length ≤ 1000000000000 := by have := HM.out; omega
  have HV := Lib.hid hv
  have HX1 := Lib.hid hx1
  clear hv hx1
  go_wp2_with fail
  go_loopw [13] (fun i wr => ∃ k : Nat, k ≤ n1 ∧ i = .int .i64 k ∧ NB wr w.heap.size A7 m.length (flipV m (xs.take k)) ∧ IntSl wr A1 n1 xs ∧ Ext w wr) (fun i _ => n1 - (intOf i).toNat)
  case atStart => exact ⟨0, Nat.zero_le _, rfl, HV.out, h1.ext HX1.out, HX1.out⟩
  case round =>
    obtain ⟨k, hk, rfl, hnb, hp, hxr⟩ := hrel
    have HNB := Lib.hid hnb
    have HXR := Lib.hid hxr
    by_cases hlt : k < n1
    · obtain ⟨ad, x, rfl, hy, hcy, hy1, hy2⟩ := hp.at_ hlt
      have HP := Lib.hid hp
      have HS : Hid (flipV m (xs.take (k + 1)) = flip1 (flipV m (xs.take k)) x) := by unfold Hid; rw [take_succ_of hy.out, flipV_snoc]
      clear hnb hp hxr
      obtain ⟨mm, hmm⟩ : ∃ mm, flipV m (xs.take k) = mm := ⟨_, rfl⟩
      have hml2 : mm.length = m.length := by rw [← hmm, flipV_len]
      have HNB2 : Hid (NB wr w.heap.size A7 m.length mm) := by unfold Hid; rw [← hmm]; exact HNB.out
      rw [hmm] at HS
      have HML := Lib.hid hml2
      clear hmm HNB hml2
      have hvb := varV_bd x
      obtain ⟨v, hv⟩ : ∃ v, varV x = v := ⟨_, rfl⟩
      rw [hv] at hvb
      have HV2 := Lib.hid hv
      clear hv
      by_cases hr : 1 ≤ v ∧ v ≤ (m.length : Int)
      · obtain ⟨hr1, hr2⟩ := hr
        obtain ⟨j, hj⟩ : ∃ j : Nat, v - 1 = (j : Int) := ⟨(v - 1).toNat, by omega⟩
        have hjm : (j : Int) < (m.length : Int) := by omega
        have hr0 : 0 < v := by omega
        obtain ⟨g, rfl, hgb, cur, hblk, hcur⟩ := HNB2.out.2 (by omega)
        have hjk : j < mm.length := by rw [HML.out]; omega
        have hck : wr.cell? ⟨g, j, none⟩ = some (.bool mm[j]) := by rw [hblk.cell]; exact hcur j _ (List.getElem?_eq_getElem hjk)
        have hfr := hblk.frozen j
        have HR : Hid (flip1 mm x = mm.set j (decide (0 < x))) := by
          unfold Hid flip1
          rw [HV2.out, if_pos ⟨hr1, by rw [HML.out]; exact hr2⟩, hj]; rfl
        have HBLK := Lib.hid hblk
        have HCUR := Lib.hid hcur
        clear hblk hcur
        go_wp2_with fail
        refine (var_c _ _).mono ?_
        rintro e w' ⟨rfl, rfl⟩
        rw [HV2.out]
        go_wp2_with fail
        go_roundw
        case rel =>
          have hjm' : j < m.length := by omega
          refine ⟨k + 1, by omega, by go_num, ?_, ?_, ?_⟩
          · rw [HS.out, HR.out]
            exact NB.set (k := j) HNB2.out hjm'
          · exact IntSl.far HP.out _ (fun x' => by rw [hck]; simp)
          · exact HXR.out.setCell hgb _
        case measure => simp [intOf]; omega
      · have HR : Hid (flip1 mm x = mm) := by
          unfold Hid flip1
          rw [HV2.out, HML.out, if_neg hr]
        rcases (show v = 0 ∨ (0 < v ∧ (m.length : Int) < v) by omega) with rfl | ⟨hv1, hv2⟩
        · clear hr
          go_wp2_with fail
          refine (var_c _ _).mono ?_
          rintro e w' ⟨rfl, rfl⟩
          rw [HV2.out]
          go_wp2_with fail
          go_roundw
          case rel => exact ⟨k + 1, by omega, by go_num, by rw [HS.out, HR.out]; exact HNB2.out, HP.out, HXR.out⟩
          case measure => simp [intOf]; omega
        · clear hr
          go_wp2_with fail
          refine (var_c _ _).mono ?_
          rintro e w' ⟨rfl, rfl⟩
          rw [HV2.out]
          go_wp2_with fail
          go_roundw
          case rel => exact ⟨k + 1, by omega, by go_num, by rw [HS.out, HR.out]; exact HNB2.out, HP.out, HXR.out⟩
          case measure => simp [intOf]; omega
    · have HNBE : Hid (NB wr w.heap.size A7 m.length (flipV m xs)) := by
        unfold Hid
        have := HNB.out
        rwa [List.take_of_length_le (by have := HL1.out; omega)] at this
      clear hnb hp hxr HNB
      go_wp2_with fail
      go_ret
      exact ⟨_, _, rfl, HNBE.out, HXR.out⟩
end Go.Proofs.Ytdhohoabcokdjaa
