/- RupFollows answers true. -/
import Derived.Test.YtdhohoabcokdjaaRupAwake
import Derived.Test.YtdhohoabcokdjaaFew
import Derived.Test.YtdhohoabcokdjaaFirst
set_option maxRecDepth 100000
namespace Go.Proofs.Ytdhohoabcokdjaa
open Go.RowKit

theorem chainV_bd : ∀ (hs : List (List Int)) (l : List Int) (i : Nat), (i : Int) ≤ (chainV l hs i).2.1 ∧ (chainV l hs i).2.1 ≤ (i : Int) + hs.length
  | [], _, i => by show (i : Int) ≤ i ∧ (i : Int) ≤ i + ((0 : Nat) : Int); omega
  | h :: hs, l, i => by
    rw [List.length_cons]
    rcases stepV_cases l h with e | e | e
    · rw [chainV_hit e]; show (i : Int) ≤ (i : Int) + 1 ∧ (i : Int) + 1 ≤ i + ((hs.length + 1 : Nat) : Int); omega
    · rw [chainV_on e]; have := chainV_bd hs (l ++ [unitU l h]) (i + 1); omega
    · rw [chainV_err e]; show (i : Int) ≤ (i : Int) ∧ (i : Int) ≤ i + ((hs.length + 1 : Nat) : Int); omega
theorem showU_bd (c : List Int) (hs : List (List Int)) : 0 ≤ showU c hs ∧ showU c hs ≤ hs.length := by
  unfold showU
  split
  · omega
  · have := chainV_bd hs (startV c) 0; omega
theorem chain_sound {m : List Bool} : ∀ (hs : List (List Int)) (l : List Int) (i : Nat), AllH l m → (chainV l hs i).2.2 = 0 → (∀ c ∈ hs.take ((chainV l hs i).2.1 - i).toNat, holdsV c m = true) → False
  | [], _, _, _, h, _ => by have h' : (23 : Int) = 0 := h; omega
  | h :: hs, l, i, hl, he, hh => by
    rcases stepV_cases l h with e | e | e
    · rw [chainV_hit e] at hh
      have hf : failP l h = true := by
        unfold stepV at e
        cases hf : failP l h with
        | true => rfl
        | false =>
          rw [hf] at e
          cases hu : unitB l h <;> rw [hu] at e <;> simp at e
      have := hh h (by
        have e1 : ((((l, (i : Int) + 1, 0) : List Int × Int × Int).2.1 - (i : Int)).toNat) = 1 := by show ((i : Int) + 1 - i).toNat = 1; omega
        rw [e1]; simp)
      rw [sound_fail hl this] at hf
      cases hf
    · have hge := (chainV_bd hs (l ++ [unitU l h]) (i + 1)).1
      rw [chainV_on e] at he hh
      have e1 : ((chainV (l ++ [unitU l h]) hs (i + 1)).2.1 - (i : Int)).toNat = ((chainV (l ++ [unitU l h]) hs (i + 1)).2.1 - ((i + 1 : Nat) : Int)).toNat + 1 := by omega
      rw [e1, List.take_succ_cons] at hh
      have hu : unitB l h = true := by
        unfold stepV at e
        cases hf : failP l h with
        | true => rw [hf] at e; simp at e
        | false =>
          rw [hf] at e
          cases hu : unitB l h with
          | true => rfl
          | false => rw [hu] at e; simp at e
      refine chain_sound hs (l ++ [unitU l h]) (i + 1) (fun x hx hv => ?_) he (fun c hc => hh c (List.mem_cons_of_mem _ hc))
      rcases List.mem_append.1 hx with hx | hx
      · exact hl x hx hv
      · rw [List.mem_singleton.1 hx]; exact sound_unit hl (hh h (List.mem_cons_self ..)) hu
    · rw [chainV_err e] at he
      have h' : (22 : Int) = 0 := he
      omega
theorem show_sound {c : List Int} {hs : List (List Int)} {m : List Bool} (he : showE c hs = 0) (hh : ∀ d ∈ hs.take (showU c hs).toNat, holdsV d m = true) : holdsV c m = true := by
  by_cases h0 : startE c = 0
  · obtain ⟨_, hs0, hb, _⟩ := start_good h0
    have e1 : showE c hs = (chainV (startV c) hs 0).2.2 := by unfold showE; rw [if_neg (fun h => h h0)]
    have e2 : showU c hs = (chainV (startV c) hs 0).2.1 := by unfold showU; rw [if_neg (fun h => h h0)]
    rw [e1] at he
    rw [e2] at hh
    cases hc : holdsV c m with
    | true => rfl
    | false =>
      exfalso
      refine chain_sound hs (startV c) 0 (fun x hx hv => ?_) he (by simpa using hh)
      rw [hs0, startL_mem] at hx
      rcases hx with hx | hx
      · cases hx
      · have := opps_all hc x (by
          unfold oppsV
          exact List.mem_map.2 ⟨-x, List.mem_filter.2 ⟨hx, by simpa using badV_mem hb _ hx⟩, by omega⟩) hv
        exact this
  · unfold showE at he; rw [if_pos h0] at he; exact absurd he h0

set_option maxRecDepth 100000 in
set_option maxHeartbeats 4000000 in
theorem lawRupFollows_c (A : Option Addr) (n c : Nat) (cl : List Int) (A2 : Option Addr) (n2 c2 : Nat) (L : List (List Int)) (A3 : Option Addr) (n3 c3 : Nat) (m : List Bool) (w : World) (h : IntSl w A n cl) (hc2 : RowsSl w A2 n2 L ∧ n2 ≤ c2) (h3 : BoolSl w A3 n3 m) :
    Calls Try.prog 4 #[.slice A n c, .slice A2 n2 c2, .slice A3 n3 c3] w fun e w' => e = .returned (.bool true) ∧ Ext w w' := by
  obtain ⟨h2, hnc⟩ := hc2
  cases hf : few8V L cl with
  | false =>
    have HF := Lib.hid hf
    clear hf
    go_enter Try.func4, Try.ntmps4
    go_wp2_with fail
    refine (few8_c _ _ _ L _ _ _ cl _ h2 h).mono ?_
    rintro e w1 ⟨rfl, hx1⟩
    rw [HF.out]
    go_wp2_with fail
    refine (law08awake_c _).mono ?_
    rintro e w2 ⟨rfl, hx2⟩
    go_wp2_with fail
    go_ret
    exact ⟨rfl, hx1.trans hx2⟩
  | true =>
    obtain ⟨_, hL, hl⟩ := few8_bd hf
    have hn : n ≤ 60 := by have := h.1; omega
    have hn2 : n2 ≤ 60 := by have := h2.1; omega
    have hub := showU_bd cl L
    rw [h2.1] at hub
    obtain ⟨hub1, hub2⟩ := hub
    obtain ⟨k, hk⟩ := Int.eq_ofNat_of_zero_le hub1
    have hkn : k ≤ n2 := by omega
    have hkc : k ≤ c2 := by omega
    have HK := Lib.hid hk
    have HF := Lib.hid hf
    have hse : sameV cl cl = true := by simp [sameV]
    have HSE := Lib.hid hse
    have HSO := Lib.hid (fun he hh => show_sound (c := cl) (hs := L) (m := m) he hh)
    clear hf hL hl hk hse hub1 hub2
    by_cases h200 : 200 < n3
    · go_enter Try.func4, Try.ntmps4
      go_wp2_with fail
      refine (few8_c _ _ _ L _ _ _ cl _ h2 h).mono ?_
      rintro e w1 ⟨rfl, hx1⟩
      rw [HF.out]
      go_wp2_with fail
      refine (law08awake_c _).mono ?_
      rintro e w2 ⟨rfl, hx2⟩
      go_wp2_with fail
      go_ret
      exact ⟨rfl, hx1.trans hx2⟩
    · go_enter Try.func4, Try.ntmps4
      go_wp2_with fail
      refine (few8_c _ _ _ L _ _ _ cl _ h2 h).mono ?_
      rintro e w1 ⟨rfl, hx1⟩
      rw [HF.out]
      have HX1 := Lib.hid hx1
      clear hx1
      go_wp2_with (at_builtin; refine appendS _ rfl (.tmp 20) (.tmp 21) rfl w1.heap.size _ [] rfl (own_empty w1) _ _ _ cl rfl ((h.ext HX1.out).ext ((Ext.refl _).alloc _)) (by simp; omega) (by simp) ?_; intro v5 w5 ho5 hg5 hloc; clear hloc; have HO5 : Hid (OwnI w5 w1.heap.size v5 cl) := (show OwnI w5 w1.heap.size v5 ([] ++ cl) from ho5); have HX5 : Hid (Ext w w5) := HX1.out.trans (Ext.grown ((Ext.refl _).alloc _) hg5 (fun j hj => by have := (own_empty w1).blk j hj; omega)); clear ho5 hg5)
      obtain ⟨A5, n5, c5, rfl, hs5⟩ := HO5.out.sl (by have := h.1; omega) h.2.2.1
      have HS5 := Lib.hid hs5
      clear hs5
      refine (rupShow_c _ _ _ cl _ _ _ L _ (h.ext HX5.out) (h2.ext HX5.out) (by omega) (by omega)).mono ?_
      rintro e w6 ⟨rfl, hx6⟩
      rw [HK.out]
      have HX6 := Lib.hid (HX5.out.trans hx6)
      have HS6 := Lib.hid (HS5.out.ext hx6)
      clear hx6
      go_wp2_with fail
      refine (same_c _ _ _ cl _ _ _ cl _ (h.ext HX6.out) HS6.out).mono ?_
      rintro e w7 ⟨rfl, hx7⟩
      rw [HSE.out]
      have HX7 := Lib.hid (HX6.out.trans hx7)
      clear hx7
      by_cases he : showE cl L = 0
      · have HE := Lib.hid he
        rw [HE.out]
        clear he
        go_wp2_with fail
        refine (rFirst_c _ _ _ _ (L.take k) _ _ _ m _ ((h2.take hkn).ext HX7.out) (h3.ext HX7.out)).mono ?_
        rintro e w8 ⟨rfl, hx8⟩
        have HX8 := Lib.hid (HX7.out.trans hx8)
        clear hx8
        by_cases hfst : firstV (L.take k) m < 0
        · have hh := firstV_neg.1 hfst
          have hcl : holdsV cl m = true := HSO.out HE.out (by rw [HK.out]; exact hh)
          have HCL := Lib.hid hcl
          clear hh hcl
          go_wp2_with fail
          refine (rHolds_c _ _ _ cl _ _ _ m _ (h.ext HX8.out) (h3.ext HX8.out)).mono ?_
          rintro e w' ⟨rfl, rfl⟩
          rw [HCL.out]
          go_wp2_with fail
          refine (law08awake_c _).mono ?_
          rintro e w9 ⟨rfl, hx9⟩
          go_wp2_with fail
          go_ret
          exact ⟨rfl, HX8.out.trans hx9⟩
        · go_wp2_with fail
          refine (law08awake_c _).mono ?_
          rintro e w9 ⟨rfl, hx9⟩
          go_wp2_with fail
          go_ret
          exact ⟨rfl, HX8.out.trans hx9⟩
      · have hb : (showE cl L == 0) = false := by simpa using he
        clear he
        go_wp2_with fail
        refine (law08awake_c _).mono ?_
        rintro e w9 ⟨rfl, hx9⟩
        go_wp2_with fail
        go_ret
        exact ⟨rfl, HX7.out.trans hx9⟩
end Go.Proofs.Ytdhohoabcokdjaa
