/- RupTells answers true. -/
import Derived.Test.YtdhohoabcokdjaaRupAwake
import Derived.Test.YtdhohoabcokdjaaFew8
set_option maxRecDepth 100000
namespace Go.Proofs.Ytdhohoabcokdjaa
open Go.RowKit

theorem stepV_bd {l c : List Int} (hl : ∀ x ∈ l, -9223372036854775808 ≤ x ∧ x ≤ 9223372036854775807) (hc : ∀ x ∈ c, -9223372036854775808 ≤ x ∧ x ≤ 9223372036854775807) : (∀ x ∈ (stepV l c).1, -9223372036854775808 ≤ x ∧ x ≤ 9223372036854775807) ∧ (stepV l c).1.length ≤ l.length + 1 := by
  rcases stepV_cases l c with h | h | h
  · rw [h]; exact ⟨hl, by simp⟩
  · rw [h]
    refine ⟨fun x hx => ?_, by simp⟩
    rcases List.mem_append.1 hx with hx | hx
    · exact hl x hx
    · rw [List.mem_singleton.1 hx]; exact unitU_bd hc
  · rw [h]; exact ⟨by simp, by simp⟩

set_option maxRecDepth 100000 in
set_option maxHeartbeats 4000000 in
theorem lawRupTells_c (A : Option Addr) (n c : Nat) (l : List Int) (A' : Option Addr) (n' c' : Nat) (cl : List Int) (A2 : Option Addr) (n2 c2 : Nat) (L : List (List Int)) (w : World) (hc0 : IntSl w A n l ∧ n ≤ c) (hc1 : IntSl w A' n' cl ∧ n' ≤ c') (h2 : RowsSl w A2 n2 L) :
    Calls Try.prog 3 #[.slice A n c, .slice A' n' c', .slice A2 n2 c2] w fun e w' => e = .returned (.bool true) ∧ Ext w w' := by
  obtain ⟨h, hnc⟩ := hc0
  obtain ⟨h', hnc'⟩ := hc1
  cases hf : few8V L l with
  | false =>
    have HF := Lib.hid hf
    clear hf
    go_enter Try.func3, Try.ntmps3
    go_wp2_with fail
    refine (few8_c _ _ _ L _ _ _ l _ h2 h).mono ?_
    rintro e w1 ⟨rfl, hx1⟩
    rw [HF.out]
    go_wp2_with fail
    refine (law08awake_c _).mono ?_
    rintro e w2 ⟨rfl, hx2⟩
    go_wp2_with fail
    go_ret
    exact ⟨rfl, hx1.trans hx2⟩
  | true =>
    obtain ⟨_, hL, hl⟩ := few8_bd hf
    have hn : n ≤ 60 := by have := h.1; omega
    have hn2 : n2 ≤ 60 := by have := h2.1; omega
    have HF := Lib.hid hf
    clear hf hL hl
    by_cases h60 : 60 < n'
    · go_enter Try.func3, Try.ntmps3
      go_wp2_with fail
      refine (few8_c _ _ _ L _ _ _ l _ h2 h).mono ?_
      rintro e w1 ⟨rfl, hx1⟩
      rw [HF.out]
      go_wp2_with fail
      refine (law08awake_c _).mono ?_
      rintro e w2 ⟨rfl, hx2⟩
      go_wp2_with fail
      go_ret
      exact ⟨rfl, hx1.trans hx2⟩
    · have hse : ∀ xs : List Int, sameV xs xs = true := fun xs => by simp [sameV]
      have HSE := Lib.hid hse
      have hsl := startV_len cl
      rw [h'.1] at hsl
      have HSB := Lib.hid (startV_bd cl)
      obtain ⟨hstb, hstl⟩ := stepV_bd h.2.2.1 h'.2.2.1
      rw [h.1] at hstl
      have HSTB := Lib.hid hstb
      clear hse hstb
      go_enter Try.func3, Try.ntmps3
      go_wp2_with fail
      refine (few8_c _ _ _ L _ _ _ l _ h2 h).mono ?_
      rintro e w1 ⟨rfl, hx1⟩
      rw [HF.out]
      go_wp2_with fail
      refine (rupStart_c _ _ _ cl _ (h'.ext hx1) (by omega)).mono ?_
      rintro e w2 ⟨va, rfl, hva, hx2⟩
      obtain ⟨Aa, na, ca, rfl, hsa⟩ := hva.sl (by omega) (fun x hx => by have := HSB.out x hx; omega)
      have HSA := Lib.hid hsa
      have X2 := hx1.trans hx2
      have HX2 := Lib.hid X2
      clear hva hsa hx1 hx2 X2
      go_wp2_with fail
      refine (rRupStart_c _ _ _ cl _ (h'.ext HX2.out) hnc' (by omega)).mono ?_
      rintro e w3 ⟨vb, rfl, hvb, hx3⟩
      obtain ⟨Ab, nb, cb, rfl, hsb⟩ := hvb.sl (by omega) (fun x hx => by have := HSB.out x hx; omega)
      have HSB3 := Lib.hid hsb
      have HSA3 := Lib.hid (HSA.out.ext hx3)
      have HX3 := Lib.hid (HX2.out.trans hx3)
      clear hvb hsb hx3 HSA
      go_wp2_with fail
      refine (rupChain_c _ _ _ l _ _ _ L _ (h.ext HX3.out) (h2.ext HX3.out) (by omega) (by omega)).mono ?_
      rintro e w4 ⟨A4, n4, c4, rfl, h4, hx4⟩
      have H4 := Lib.hid h4
      have HSB4 := Lib.hid (HSB3.out.ext hx4)
      have HSA4 := Lib.hid (HSA3.out.ext hx4)
      have HX4 := Lib.hid (HX3.out.trans hx4)
      clear h4 hx4 HSB3 HSA3
      go_wp2_with fail
      refine (rRupChain_c _ _ _ l _ _ _ L _ (h.ext HX4.out) (h2.ext HX4.out) (by omega) (by omega)).mono ?_
      rintro e w5 ⟨A5, n5, c5, rfl, h5, hx5⟩
      have H5 := Lib.hid h5
      have HX5 := Lib.hid hx5
      have HXX5 := Lib.hid (HX4.out.trans hx5)
      clear h5 hx5
      go_wp2_with fail
      refine (rupShow_c _ _ _ cl _ _ _ L _ (h'.ext HXX5.out) (h2.ext HXX5.out) (by omega) (by omega)).mono ?_
      rintro e w6 ⟨rfl, hx6⟩
      have HX6 := Lib.hid (HX5.out.trans hx6)
      have HXX6 := Lib.hid (HXX5.out.trans hx6)
      have H56 := Lib.hid (H5.out.ext hx6)
      clear hx6 H5
      go_wp2_with fail
      refine (rRupShow_c _ _ _ cl _ _ _ L _ (h'.ext HXX6.out) hnc' (h2.ext HXX6.out) (by omega) (by omega)).mono ?_
      rintro e w7 ⟨rfl, hx7⟩
      have HX7 := Lib.hid (HX6.out.trans hx7)
      have HXX7 := Lib.hid (HXX6.out.trans hx7)
      have H57 := Lib.hid (H56.out.ext hx7)
      clear hx7 H56
      go_wp2_with fail
      refine (rupStep_c _ _ _ l _ _ _ cl _ (h.ext HXX7.out) hnc (h'.ext HXX7.out) (by omega)).mono ?_
      rintro e w8 ⟨v8, rfl, hv8, hx8⟩
      obtain ⟨A8, n8, c8, rfl, hs8⟩ := hv8.sl (by omega) HSTB.out
      have H8 := Lib.hid hs8
      have HX8 := Lib.hid (HX7.out.trans hx8)
      have HXX8 := Lib.hid (HXX7.out.trans hx8)
      have H58 := Lib.hid (H57.out.ext hx8)
      clear hv8 hs8 hx8 H57
      go_wp2_with fail
      refine (rRupStep_c _ _ _ l _ _ _ cl _ (h.ext HXX8.out) (h'.ext HXX8.out) (by omega)).mono ?_
      rintro e w9 ⟨A9, n9, c9, rfl, hs9, hx9⟩
      have H9 := Lib.hid hs9
      have H89 := Lib.hid (H8.out.ext hx9)
      have HX9 := Lib.hid (HX8.out.trans hx9)
      have HXX9 := Lib.hid (HXX8.out.trans hx9)
      have H59 := Lib.hid (H58.out.ext hx9)
      clear hs9 hx9 H8 H58
      go_wp2_with fail
      refine (same_c _ _ _ (startV cl) _ _ _ (startV cl) _ (HSA4.out.ext HX9.out) (HSB4.out.ext HX9.out)).mono ?_
      rintro e w10 ⟨rfl, hx10⟩
      rw [HSE.out]
      have HX10 := Lib.hid hx10
      clear hx10
      go_wp2_with fail
      refine (same_c _ _ _ (chainV l L 0).1 _ _ _ (chainV l L 0).1 _ ((H4.out.ext HX9.out).ext HX10.out) (H59.out.ext HX10.out)).mono ?_
      rintro e w11 ⟨rfl, hx11⟩
      rw [HSE.out]
      have HX11 := Lib.hid (HX10.out.trans hx11)
      clear hx11
      go_wp2_with fail
      refine (same_c _ _ _ (stepV l cl).1 _ _ _ (stepV l cl).1 _ (H89.out.ext HX11.out) (H9.out.ext HX11.out)).mono ?_
      rintro e w12 ⟨rfl, hx12⟩
      rw [HSE.out]
      have HX12 := Lib.hid (HX11.out.trans hx12)
      clear hx12
      go_wp2_with fail
      refine (law08awake_c _).mono ?_
      rintro e w13 ⟨rfl, hx13⟩
      go_wp2_with fail
      go_ret
      exact ⟨rfl, (HXX9.out.trans HX12.out).trans hx13⟩
end Go.Proofs.Ytdhohoabcokdjaa
