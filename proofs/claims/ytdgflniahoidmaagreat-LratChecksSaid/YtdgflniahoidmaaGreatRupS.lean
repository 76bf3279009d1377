/- Hints that hold show what holds (plain; out of LawRupFollowsC). -/
import Derived.Test.YtdgflniahoidmaaGreatRup1
import Derived.Test.YtdgflniahoidmaaGreatRupP
import Derived.Test.YtdgflniahoidmaaGreatFew
import Derived.Test.YtdgflniahoidmaaGreatFirst
set_option maxRecDepth 100000
namespace Go.Proofs.YtdgflniahoidmaaGreat
open Go.RowKit

theorem chainV_bd : ∀ (hs : List (List Int)) (l : List Int) (i : Nat), (i : Int) ≤ (chainV l hs i).2.1 ∧ (chainV l hs i).2.1 ≤ (i : Int) + hs.length
  | [], _, i => by show (i : Int) ≤ i ∧ (i : Int) ≤ i + ((0 : Nat) : Int); omega
  | h :: hs, l, i => by
    rw [List.length_cons]
    rcases stepV_cases l h with e | e | e
    · rw [chainV_hit e]; show (i : Int) ≤ (i : Int) + 1 ∧ (i : Int) + 1 ≤ i + ((hs.length + 1 : Nat) : Int); omega
    · rw [chainV_on e]; have := chainV_bd hs (l ++ [unitU l h]) (i + 1); omega
    · rw [chainV_err e]; show (i : Int) ≤ (i : Int) ∧ (i : Int) ≤ i + ((hs.length + 1 : Nat) : Int); omega
theorem showU_bd (c : List Int) (hs : List (List Int)) : 0 ≤ showU c hs ∧ showU c hs ≤ hs.length := by
  unfold showU
  split
  · omega
  · have := chainV_bd hs (startV c) 0; omega
theorem chain_sound {m : List Bool} : ∀ (hs : List (List Int)) (l : List Int) (i : Nat), AllH l m → (chainV l hs i).2.2 = 0 → (∀ c ∈ hs.take ((chainV l hs i).2.1 - i).toNat, holdsV c m = true) → False
  | [], _, _, _, h, _ => by have h' : (23 : Int) = 0 := h; omega
  | h :: hs, l, i, hl, he, hh => by
    rcases stepV_cases l h with e | e | e
    · rw [chainV_hit e] at hh
      have hf : failP l h = true := by
        unfold stepV at e
        cases hf : failP l h with
        | true => rfl
        | false =>
          rw [hf] at e
          cases hu : unitB l h <;> rw [hu] at e <;> simp at e
      have := hh h (by
        have e1 : ((((l, (i : Int) + 1, 0) : List Int × Int × Int).2.1 - (i : Int)).toNat) = 1 := by show ((i : Int) + 1 - i).toNat = 1; omega
        rw [e1]; simp)
      rw [sound_fail hl this] at hf
      cases hf
    · have hge := (chainV_bd hs (l ++ [unitU l h]) (i + 1)).1
      rw [chainV_on e] at he hh
      have e1 : ((chainV (l ++ [unitU l h]) hs (i + 1)).2.1 - (i : Int)).toNat = ((chainV (l ++ [unitU l h]) hs (i + 1)).2.1 - ((i + 1 : Nat) : Int)).toNat + 1 := by omega
      rw [e1, List.take_succ_cons] at hh
      have hu : unitB l h = true := by
        unfold stepV at e
        cases hf : failP l h with
        | true => rw [hf] at e; simp at e
        | false =>
          rw [hf] at e
          cases hu : unitB l h with
          | true => rfl
          | false => rw [hu] at e; simp at e
      refine chain_sound hs (l ++ [unitU l h]) (i + 1) (fun x hx hv => ?_) he (fun c hc => hh c (List.mem_cons_of_mem _ hc))
      rcases List.mem_append.1 hx with hx | hx
      · exact hl x hx hv
      · rw [List.mem_singleton.1 hx]; exact sound_unit hl (hh h (List.mem_cons_self ..)) hu
    · rw [chainV_err e] at he
      have h' : (22 : Int) = 0 := he
      omega
theorem show_sound {c : List Int} {hs : List (List Int)} {m : List Bool} (he : showE c hs = 0) (hh : ∀ d ∈ hs.take (showU c hs).toNat, holdsV d m = true) : holdsV c m = true := by
  by_cases h0 : startE c = 0
  · obtain ⟨_, hs0, hb, _⟩ := start_good h0
    have e1 : showE c hs = (chainV (startV c) hs 0).2.2 := by unfold showE; rw [if_neg (fun h => h h0)]
    have e2 : showU c hs = (chainV (startV c) hs 0).2.1 := by unfold showU; rw [if_neg (fun h => h h0)]
    rw [e1] at he
    rw [e2] at hh
    cases hc : holdsV c m with
    | true => rfl
    | false =>
      exfalso
      refine chain_sound hs (startV c) 0 (fun x hx hv => ?_) he (by simpa using hh)
      rw [hs0, startL_mem] at hx
      rcases hx with hx | hx
      · cases hx
      · have := opps_all hc x (by
          unfold oppsV
          exact List.mem_map.2 ⟨-x, List.mem_filter.2 ⟨hx, by simpa using badV_mem hb _ hx⟩, by omega⟩) hv
        exact this
  · unfold showE at he; rw [if_pos h0] at he; exact absurd he h0


end Go.Proofs.YtdgflniahoidmaaGreat
