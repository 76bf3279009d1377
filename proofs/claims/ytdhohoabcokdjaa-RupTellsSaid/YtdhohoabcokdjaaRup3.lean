/- Layer 8 (rup): Chain and Show, and the reference's. -/
import Derived.Test.YtdhohoabcokdjaaRup2
set_option maxRecDepth 100000
namespace Go.Proofs.Ytdhohoabcokdjaa
open Go.RowKit

theorem stepV_cases (l h : List Int) : stepV l h = (l, true, 0) ∨ stepV l h = (l ++ [unitU l h], false, 0) ∨ stepV l h = ([], false, 22) := by
  unfold stepV
  cases failP l h
  · cases unitB l h
    · exact Or.inr (Or.inr rfl)
    · exact Or.inr (Or.inl rfl)
  · exact Or.inl rfl
theorem chainV_hit {l h : List Int} {hs : List (List Int)} {i : Nat} (hh : stepV l h = (l, true, 0)) : chainV l (h :: hs) i = (l, (i : Int) + 1, 0) := by
  rw [chainV, hh]; rfl
theorem chainV_err {l h : List Int} {hs : List (List Int)} {i : Nat} (hh : stepV l h = ([], false, 22)) : chainV l (h :: hs) i = ([], (i : Int), 22) := by
  rw [chainV, hh]; rfl
theorem chainV_on {l h : List Int} {hs : List (List Int)} {i : Nat} (hh : stepV l h = (l ++ [unitU l h], false, 0)) : chainV l (h :: hs) i = chainV (l ++ [unitU l h]) hs (i + 1) := by
  rw [chainV, hh]; rfl
theorem drop_cons {α : Type} {L : List α} {k : Nat} {x : α} (h : L[k]? = some x) : L.drop k = x :: L.drop (k + 1) := by
  obtain ⟨hk, e⟩ := List.getElem?_eq_some_iff.1 h
  rw [List.drop_eq_getElem_cons hk, e]

/-- What Chain hands back. -/
def RetChain (r : List Int × Int × Int) (w : World) (e : Ending) (w' : World) : Prop := ∃ A n c, e = .returned (.tuple #[.slice A n c, .int .i64 r.2.1, .int .i64 r.2.2]) ∧ IntSl w' A n r.1 ∧ Ext w w'

set_option maxHeartbeats 2000000 in
theorem rupChain_c (A : Option Addr) (n c : Nat) (l : List Int) (A' : Option Addr) (n' c' : Nat) (L : List (List Int)) (w : World) (h : IntSl w A n l) (h' : RowsSl w A' n' L) (hsm : n ≤ 100000000) (hsm' : n' ≤ 100000000) :
    Calls Try.prog 15 #[.slice A n c, .slice A' n' c'] w (RetChain (chainV l L 0) w) := by
  have HLL := Lib.hid h.1
  have HBL := Lib.hid h.2.2.1
  have hn := h'.len
  go_enter Try.func15, Try.ntmps15
  go_wp2_with fail
  refine (clone_c _ _ _ l _ h (by omega)).mono ?_
  rintro e w1 ⟨v, rfl, hv, hx1⟩
  have HV := Lib.hid hv
  have HX1 := Lib.hid hx1
  clear hv hx1
  go_wp2_with fail
  go_loopw [4, 16] (fun o i wr => ∃ (k : Nat) (lc : List Int), k ≤ n' ∧ i = .int .i64 k ∧ chainV l L 0 = chainV lc (L.drop k) k ∧ lc.length ≤ n + k ∧ (∀ x ∈ lc, -9223372036854775808 ≤ x ∧ x ≤ 9223372036854775807) ∧ OwnI wr w.heap.size o lc ∧ Ext w wr) (fun _ i _ => n' - (intOf i).toNat)
  case atStart => exact ⟨0, l, Nat.zero_le _, rfl, rfl, by have := HLL.out; omega, HBL.out, HV.out, HX1.out⟩
  case round =>
    obtain ⟨k, lc, hk, rfl, hch, hlc, hbd, ho, hx⟩ := hrel
    obtain ⟨Ao, no, co, rfl, hso, hnc⟩ := ho.slc (by omega) hbd
    have HNO := Lib.hid hso.1
    have hno : no ≤ 1000000000 := by have := hso.1; omega
    have HC := Lib.hid hch
    have HLC := Lib.hid hlc
    have HB := Lib.hid hbd
    have HO := Lib.hid ho
    have HSO := Lib.hid hso
    have HX := Lib.hid hx
    clear hch hlc hbd ho hso hx
    by_cases hlt : k < n'
    · obtain ⟨ad, xs, A1, n1, c1, rfl, hy, hcx, hrow⟩ := (h'.ext HX.out).at_ hlt
      have HD := Lib.hid (drop_cons hy.out)
      have HU := Lib.hid (unitU_bd (l := lc) hrow.2.2.1)
      rcases stepV_cases lc xs with hs | hs | hs
      · have HR : Hid (chainV l L 0 = (lc, (k : Int) + 1, 0)) := by unfold Hid; rw [HC.out, HD.out, chainV_hit hs]
        have HS := Lib.hid hs
        clear hs
        go_wp2_with fail
        refine (rupStep_c _ _ _ lc _ _ _ xs _ HSO.out hnc hrow hno).mono ?_
        rintro e w2 ⟨v2, rfl, ho2, hx2⟩
        simp only [HS.out] at ho2 ⊢
        obtain ⟨A2, n2, c2, rfl, hs2⟩ := ho2.sl (by have := HLC.out; omega) HB.out
        have HS2 := Lib.hid hs2
        have HX2 := Lib.hid hx2
        clear ho2 hs2 hx2
        go_wp2_with fail
        go_ret3
        exact ⟨A2, n2, c2, by rw [HR.out]; rfl, by rw [HR.out]; exact HS2.out, HX.out.trans HX2.out⟩
      · have HR : Hid (chainV l L 0 = chainV (lc ++ [unitU lc xs]) (L.drop (k + 1)) (k + 1)) := by unfold Hid; rw [HC.out, HD.out, chainV_on hs]
        have HS := Lib.hid hs
        clear hs
        go_wp2_with fail
        refine (rupStep_c _ _ _ lc _ _ _ xs _ HSO.out hnc hrow hno).mono ?_
        rintro e w2 ⟨v2, rfl, ho2, hx2⟩
        simp only [HS.out] at ho2 ⊢
        have HO2 := Lib.hid ho2
        have HX2 := Lib.hid hx2
        clear ho2 hx2
        go_wp2_with fail
        go_roundw
        case rel => exact ⟨k + 1, lc ++ [unitU lc xs], by omega, by go_num, HR.out, by have := HLC.out; simp; omega, fun x hx => by
          rcases List.mem_append.1 hx with hx | hx
          · exact HB.out x hx
          · rw [List.mem_singleton.1 hx]; exact HU.out, HO2.out.less HX.out.size_le, HX.out.trans HX2.out⟩
        case measure => simp [intOf]; omega
      · have HR : Hid (chainV l L 0 = ([], (k : Int), 22)) := by unfold Hid; rw [HC.out, HD.out, chainV_err hs]
        have HS := Lib.hid hs
        clear hs
        go_wp2_with fail
        refine (rupStep_c _ _ _ lc _ _ _ xs _ HSO.out hnc hrow hno).mono ?_
        rintro e w2 ⟨v2, rfl, ho2, hx2⟩
        simp only [HS.out] at ho2 ⊢
        have HX2 := Lib.hid hx2
        clear hx2 ho2
        go_wp2_with fail
        go_ret3
        exact ⟨none, 0, 0, by rw [HR.out]; rfl, by rw [HR.out]; exact IntSl.nil _, HX.out.trans HX2.out⟩
    · have hkn : k = n' := by omega
      have HR : Hid (chainV l L 0 = (lc, (n' : Int), 23)) := by unfold Hid; rw [HC.out, List.drop_of_length_le (by have := h'.1; omega), hkn]; rfl
      clear hkn
      go_wp2_with fail
      go_ret3
      exact ⟨_, _, _, by rw [HR.out]; rfl, by rw [HR.out]; exact HSO.out, HX.out⟩

set_option maxHeartbeats 2000000 in
theorem rRupChain_c (A : Option Addr) (n c : Nat) (l : List Int) (A' : Option Addr) (n' c' : Nat) (L : List (List Int)) (w : World) (h : IntSl w A n l) (h' : RowsSl w A' n' L) (hsm : n ≤ 100000000) (hsm' : n' ≤ 100000000) :
    Calls Try.prog 16 #[.slice A n c, .slice A' n' c'] w (RetChain (chainV l L 0) w) := by
  have HLL := Lib.hid h.1
  have hn := h'.len
  go_enter Try.func16, Try.ntmps16
  go_wp2_with fail
  go_loopw [0, 7] (fun o i wr => ∃ (k : Nat) (lc : List Int) (Ao : Option Addr) (no co : Nat), k ≤ n' ∧ i = .int .i64 k ∧ o = .slice Ao no co ∧ chainV l L 0 = chainV lc (L.drop k) k ∧ lc.length ≤ n + k ∧ IntSl wr Ao no lc ∧ Ext w wr) (fun _ i _ => n' - (intOf i).toNat)
  case atStart => exact ⟨0, l, A, n, c, Nat.zero_le _, rfl, rfl, rfl, by have := HLL.out; omega, h, Ext.refl _⟩
  case round =>
    obtain ⟨k, lc, Ao, no, co, hk, rfl, rfl, hch, hlc, hso, hx⟩ := hrel
    have hno : no ≤ 1000000000 := by have := hso.1; omega
    have HNO := Lib.hid hso.1
    have HC := Lib.hid hch
    have HLC := Lib.hid hlc
    have HSO := Lib.hid hso
    have HX := Lib.hid hx
    clear hch hlc hso hx
    by_cases hlt : k < n'
    · obtain ⟨ad, xs, A1, n1, c1, rfl, hy, hcx, hrow⟩ := (h'.ext HX.out).at_ hlt
      have HD := Lib.hid (drop_cons hy.out)
      rcases stepV_cases lc xs with hs | hs | hs
      · have HR : Hid (chainV l L 0 = (lc, (k : Int) + 1, 0)) := by unfold Hid; rw [HC.out, HD.out, chainV_hit hs]
        have HS := Lib.hid hs
        clear hs
        go_wp2_with fail
        refine (rRupStep_c _ _ _ lc _ _ _ xs _ HSO.out hrow hno).mono ?_
        rintro e w2 ⟨A2, n2, c2, rfl, hs2, hx2⟩
        simp only [HS.out] at hs2 ⊢
        have HS2 := Lib.hid hs2
        have HX2 := Lib.hid hx2
        clear hs2 hx2
        go_wp2_with fail
        go_ret3
        exact ⟨A2, n2, c2, by rw [HR.out]; rfl, by rw [HR.out]; exact HS2.out, HX.out.trans HX2.out⟩
      · have HR : Hid (chainV l L 0 = chainV (lc ++ [unitU lc xs]) (L.drop (k + 1)) (k + 1)) := by unfold Hid; rw [HC.out, HD.out, chainV_on hs]
        have HS := Lib.hid hs
        clear hs
        go_wp2_with fail
        refine (rRupStep_c _ _ _ lc _ _ _ xs _ HSO.out hrow hno).mono ?_
        rintro e w2 ⟨A2, n2, c2, rfl, hs2, hx2⟩
        simp only [HS.out] at hs2 ⊢
        have HS2 := Lib.hid hs2
        have HX2 := Lib.hid hx2
        clear hs2 hx2
        go_wp2_with fail
        go_roundw
        case rel => exact ⟨k + 1, lc ++ [unitU lc xs], A2, n2, c2, by omega, by go_num, rfl, HR.out, by have := HLC.out; simp; omega, HS2.out, HX.out.trans HX2.out⟩
        case measure => simp [intOf]; omega
      · have HR : Hid (chainV l L 0 = ([], (k : Int), 22)) := by unfold Hid; rw [HC.out, HD.out, chainV_err hs]
        have HS := Lib.hid hs
        clear hs
        go_wp2_with fail
        refine (rRupStep_c _ _ _ lc _ _ _ xs _ HSO.out hrow hno).mono ?_
        rintro e w2 ⟨A2, n2, c2, rfl, hs2, hx2⟩
        simp only [HS.out] at hs2 ⊢
        have HX2 := Lib.hid hx2
        clear hx2 hs2
        go_wp2_with fail
        go_ret3
        exact ⟨none, 0, 0, by rw [HR.out]; rfl, by rw [HR.out]; exact IntSl.nil _, HX.out.trans HX2.out⟩
    · have hkn : k = n' := by omega
      have HR : Hid (chainV l L 0 = (lc, (n' : Int), 23)) := by unfold Hid; rw [HC.out, List.drop_of_length_le (by have := h'.1; omega), hkn]; rfl
      clear hkn
      go_wp2_with fail
      go_ret3
      exact ⟨_, _, _, by rw [HR.out]; rfl, by rw [HR.out]; exact HSO.out, HX.out⟩

theorem startV_len (c : List Int) : (startV c).length ≤ c.length := by
  unfold startV
  split
  · simp
  · split
    · simp
    · have := startL_len c []; simpa using this
theorem startV_bd (c : List Int) : ∀ x ∈ startV c, -100000 ≤ x ∧ x ≤ 100000 := by
  intro x hx
  unfold startV at hx
  cases hb : badV c with
  | true => rw [hb] at hx; simp at hx
  | false =>
    rw [hb] at hx
    cases ht : tautV c with
    | true => rw [ht] at hx; simp at hx
    | false => rw [ht] at hx; exact startL_bd hb x (by simpa using hx)

theorem rupShow_c (A : Option Addr) (n c : Nat) (xs : List Int) (A' : Option Addr) (n' c' : Nat) (L : List (List Int)) (w : World) (h : IntSl w A n xs) (h' : RowsSl w A' n' L) (hsm : n ≤ 100000000) (hsm' : n' ≤ 100000000) :
    Calls Try.prog 17 #[.slice A n c, .slice A' n' c'] w fun e w' => e = .returned (.tuple #[.int .i64 (showU xs L), .int .i64 (showE xs L)]) ∧ Ext w w' := by
  have hlen := startV_len xs
  rw [h.1] at hlen
  have HB := Lib.hid (startV_bd xs)
  cases he : decide (startE xs ≠ 0)
  · have he' : startE xs = 0 := by simpa using he
    have HE := Lib.hid he'
    have HR : Hid (showU xs L = (chainV (startV xs) L 0).2.1 ∧ showE xs L = (chainV (startV xs) L 0).2.2) := by
      unfold Hid showU showE; rw [if_neg (fun h => h he'), if_neg (fun h => h he')]; exact ⟨rfl, rfl⟩
    clear he he'
    go_enter Try.func17, Try.ntmps17
    go_wp2_with fail
    refine (rupStart_c _ _ _ xs _ h (by omega)).mono ?_
    rintro e w1 ⟨v, rfl, hv, hx1⟩
    rw [HE.out]
    obtain ⟨Av, nv, cv, rfl, hsv⟩ := hv.sl (by omega) (fun x hx => by have := HB.out x hx; omega)
    have hnv : nv ≤ 100000000 := by have := hsv.1; omega
    have HSV := Lib.hid hsv
    have HX1 := Lib.hid hx1
    clear hv hsv hx1
    go_wp2_with fail
    refine (rupChain_c _ _ _ _ _ _ _ L _ HSV.out (h'.ext HX1.out) hnv hsm').mono ?_
    rintro e w2 ⟨A2, n2, c2, rfl, _, hx2⟩
    have HX2 := Lib.hid hx2
    clear hx2
    go_wp2_with fail
    go_ret2
    exact ⟨by rw [HR.out.1, HR.out.2]; rfl, HX1.out.trans HX2.out⟩
  · have he' : startE xs ≠ 0 := by simpa using he
    have HR : Hid (showU xs L = 0 ∧ showE xs L = startE xs) := by unfold Hid showU showE; rw [if_pos he', if_pos he']; exact ⟨rfl, rfl⟩
    have hb : (startE xs != 0) = true := by simpa using he'
    clear he he'
    go_enter Try.func17, Try.ntmps17
    go_wp2_with fail
    refine (rupStart_c _ _ _ xs _ h (by omega)).mono ?_
    rintro e w1 ⟨v, rfl, _, hx1⟩
    have HX1 := Lib.hid hx1
    clear hx1
    go_wp2_with fail
    go_ret2
    exact ⟨by rw [HR.out.1, HR.out.2]; rfl, HX1.out⟩

theorem rRupShow_c (A : Option Addr) (n c : Nat) (xs : List Int) (A' : Option Addr) (n' c' : Nat) (L : List (List Int)) (w : World) (h : IntSl w A n xs) (hnc : n ≤ c) (h' : RowsSl w A' n' L) (hsm : n ≤ 100000000) (hsm' : n' ≤ 100000000) :
    Calls Try.prog 18 #[.slice A n c, .slice A' n' c'] w fun e w' => e = .returned (.tuple #[.int .i64 (showU xs L), .int .i64 (showE xs L)]) ∧ Ext w w' := by
  have hlen := startV_len xs
  rw [h.1] at hlen
  have HB := Lib.hid (startV_bd xs)
  cases he : decide (startE xs ≠ 0)
  · have he' : startE xs = 0 := by simpa using he
    have HE := Lib.hid he'
    have HR : Hid (showU xs L = (chainV (startV xs) L 0).2.1 ∧ showE xs L = (chainV (startV xs) L 0).2.2) := by
      unfold Hid showU showE; rw [if_neg (fun h => h he'), if_neg (fun h => h he')]; exact ⟨rfl, rfl⟩
    clear he he'
    go_enter Try.func18, Try.ntmps18
    go_wp2_with fail
    refine (rRupStart_c _ _ _ xs _ h hnc (by omega)).mono ?_
    rintro e w1 ⟨v, rfl, hv, hx1⟩
    rw [HE.out]
    obtain ⟨Av, nv, cv, rfl, hsv⟩ := hv.sl (by omega) (fun x hx => by have := HB.out x hx; omega)
    have hnv : nv ≤ 100000000 := by have := hsv.1; omega
    have HSV := Lib.hid hsv
    have HX1 := Lib.hid hx1
    clear hv hsv hx1
    go_wp2_with fail
    refine (rRupChain_c _ _ _ _ _ _ _ L _ HSV.out (h'.ext HX1.out) hnv hsm').mono ?_
    rintro e w2 ⟨A2, n2, c2, rfl, _, hx2⟩
    have HX2 := Lib.hid hx2
    clear hx2
    go_wp2_with fail
    go_ret2
    exact ⟨by rw [HR.out.1, HR.out.2]; rfl, HX1.out.trans HX2.out⟩
  · have he' : startE xs ≠ 0 := by simpa using he
    have HR : Hid (showU xs L = 0 ∧ showE xs L = startE xs) := by unfold Hid showU showE; rw [if_pos he', if_pos he']; exact ⟨rfl, rfl⟩
    have hb : (startE xs != 0) = true := by simpa using he'
    clear he he'
    go_enter Try.func18, Try.ntmps18
    go_wp2_with fail
    refine (rRupStart_c _ _ _ xs _ h hnc (by omega)).mono ?_
    rintro e w1 ⟨v, rfl, _, hx1⟩
    have HX1 := Lib.hid hx1
    clear hx1
    go_wp2_with fail
    go_ret2
    exact ⟨by rw [HR.out.1, HR.out.2]; rfl, HX1.out⟩
end Go.Proofs.Ytdhohoabcokdjaa
