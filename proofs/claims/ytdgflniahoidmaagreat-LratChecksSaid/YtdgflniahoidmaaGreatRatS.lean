/- RatAdds, in plain Lean: a clause that may be added holds, or holds when the pivot is flipped. -/
import Derived.Test.YtdgflniahoidmaaGreatRupS
import Derived.Test.YtdgflniahoidmaaGreatRat3
import Derived.Test.YtdgflniahoidmaaGreatCnf2
set_option maxRecDepth 100000
namespace Go.Proofs.YtdgflniahoidmaaGreat
open Go.RowKit

theorem start_all {c : List Int} {m : List Bool} (h0 : startE c = 0) (hc : holdsV c m = false) : AllH (startV c) m := by
  obtain ⟨_, hs0, hb, _⟩ := start_good h0
  intro x hx hv
  rw [hs0, startL_mem] at hx
  rcases hx with hx | hx
  · cases hx
  · exact opps_all hc x (by
      unfold oppsV
      exact List.mem_map.2 ⟨-x, List.mem_filter.2 ⟨hx, by simpa using badV_mem hb _ hx⟩, by omega⟩) hv
theorem chain_all {m : List Bool} : ∀ (hs : List (List Int)) (l : List Int) (i : Nat), AllH l m → (∀ c ∈ hs, holdsV c m = true) → AllH (chainV l hs i).1 m
  | [], l, i, hl, _ => hl
  | h :: hs, l, i, hl, hh => by
    rcases stepV_cases l h with e | e | e
    · rw [chainV_hit e]; exact hl
    · rw [chainV_on e]
      have hu : unitB l h = true := by
        unfold stepV at e
        cases hf : failP l h with
        | true => rw [hf] at e; simp at e
        | false =>
          rw [hf] at e
          cases hu : unitB l h with
          | true => rfl
          | false => rw [hu] at e; simp at e
      refine chain_all hs (l ++ [unitU l h]) (i + 1) (fun x hx hv => ?_) (fun c hc => hh c (List.mem_cons_of_mem _ hc))
      rcases List.mem_append.1 hx with hx | hx
      · exact hl x hx hv
      · rw [List.mem_singleton.1 hx]; exact sound_unit hl (hh h (List.mem_cons_self ..)) hu
    · rw [chainV_err e]; intro x hx; cases hx
theorem refGo_all {m : List Bool} {p : Int} : ∀ (c o : List Int), AllH o m → (∀ y ∈ c, y ≠ negV p → varV y ≠ 0 → litHolds m y = false) → ∃ o', refGo p o c = some o' ∧ AllH o' m
  | [], o, ho, _ => ⟨o, rfl, ho⟩
  | x :: c, o, ho, hc => by
    have hc' : ∀ y ∈ c, y ≠ negV p → varV y ≠ 0 → litHolds m y = false := fun y hy => hc y (List.mem_cons_of_mem _ hy)
    rw [refGo]
    by_cases h0 : varV x = 0 ∨ x = negV p
    · rw [if_pos h0]; exact refGo_all c o ho hc'
    · rw [if_neg h0]
      have hv : varV x ≠ 0 := fun e => h0 (Or.inl e)
      have hf := hc x (List.mem_cons_self ..) (fun e => h0 (Or.inr e)) hv
      have h1 : valueV o x ≠ 1 := by
        intro e
        unfold valueV at e
        rw [if_neg hv] at e
        cases hh : hasV o x with
        | true =>
          have : litHolds m x = true := ho x (by simpa [hasV] using hh) hv
          rw [hf] at this; cases this
        | false => rw [hh] at e; simp at e; split at e <;> omega
      rw [if_neg h1]
      by_cases h2 : valueV o x = 0
      · rw [if_pos h2]
        refine refGo_all c (o ++ [-x]) (fun y hy hvy => ?_) hc'
        rcases List.mem_append.1 hy with hy | hy
        · exact ho y hy hvy
        · rw [List.mem_singleton.1 hy, litHolds_neg hv, hf]; rfl
      · rw [if_neg h2]; exact refGo_all c o ho hc'
theorem refute_sound {m : List Bool} {p : Int} {l c : List Int} {hs : List (List Int)} (hl : AllH l m) (hh : ∀ d ∈ hs, holdsV d m = true) (hr : refuteV l c p hs = 0) : ∃ y ∈ c, y ≠ negV p ∧ litHolds m y = true := by
  by_cases hall : ∀ y ∈ c, y ≠ negV p → varV y ≠ 0 → litHolds m y = false
  · exfalso
    obtain ⟨o', ho, ha⟩ := refGo_all c l hl hall
    unfold refuteV at hr
    rw [ho] at hr
    have h2 : (chainV o' hs 0).2.2 = 0 := by
      by_cases e : (chainV o' hs 0).2.2 = 0
      · exact e
      · have hr' : (if (chainV o' hs 0).2.2 = 0 then (0 : Int) else 24) = 0 := hr
        rw [if_neg e] at hr'; omega
    exact chain_sound hs o' 0 ha h2 (fun d hd => hh d (List.mem_of_mem_take hd))
  · apply Classical.byContradiction
    intro hno
    apply hall
    intro y hy h1 _
    cases hlh : litHolds m y with
    | false => rfl
    | true => exact absurd ⟨y, hy, h1, hlh⟩ hno

theorem flip1_other {m : List Bool} {p x : Int} (hne : varV x ≠ varV p) : litHolds (flip1 m p) x = litHolds m x := by
  unfold flip1
  split
  · rename_i hr
    unfold litHolds truthV
    rw [List.length_set]
    by_cases h0 : varV x = 0
    · rw [h0]; rfl
    · have hb := varV_bd x
      have hj : (varV p - 1).toNat ≠ (varV x - 1).toNat := by omega
      rw [List.getD_eq_getElem?_getD, List.getElem?_set_ne hj, ← List.getD_eq_getElem?_getD]
  · rfl
theorem flip1_self {m : List Bool} {p : Int} (hp : varV p ≠ 0) (hm : varV p ≤ (m.length : Int)) : litHolds (flip1 m p) p = true := by
  have hb := varV_bd p
  have hp3 := varV_pos hp
  unfold flip1
  rw [if_pos ⟨by omega, hm⟩]
  unfold litHolds truthV
  rw [List.length_set, decide_eq_true hp, decide_eq_true hm, List.getD_eq_getElem?_getD, List.getElem?_set_self (by omega), side_pos hp3.2.2]
  simp

theorem rat_plain {L : List (List Int)} {cl : List Int} {ah : List (List Int)} {F : Int → Option (List (List Int))} {m : List Bool} (hs : (ratShow L cl ah F).2 = 0) (hL : ∀ d ∈ L, holdsV d m = true) (hv : ∀ x ∈ cl, varV x ≠ 0 ∧ varV x ≤ (m.length : Int))
    (hah : ∀ d ∈ ah, d ∈ L) (hF : ∀ i g, F i = some g → ∀ d ∈ g, d ∈ L) :
    holdsV cl m = true ∨ (cl ≠ [] ∧ ∀ d ∈ L ++ [cl], holdsV d (flipV m [cl.headD 0]) = true) := by
  cases hc : holdsV cl m with
  | true => exact Or.inl rfl
  | false =>
    right
    unfold ratShow at hs
    by_cases h0 : startE cl = 0
    · rw [if_neg (by rw [h0]; decide)] at hs
      cases cl with
      | nil => rw [if_pos rfl] at hs; exact absurd hs (by decide)
      | cons p xs =>
        refine ⟨by simp, ?_⟩
        rw [if_neg (by simp)] at hs
        have hs' : (if (chainV (startV (p :: xs)) ah 0).2.2 ≠ 23 then ((-1 : Int), (chainV (startV (p :: xs)) ah 0).2.2) else
          match (candV p L).find? (fun i => !refB F (chainV (startV (p :: xs)) ah 0).1 (L.getD i.toNat []) p i) with | some i => (i, 24) | none => (((candV p L).length : Int), 0)).2 = 0 := hs
        clear hs
        have ha : AllH (chainV (startV (p :: xs)) ah 0).1 m := chain_all ah _ 0 (start_all h0 hc) (fun d hd => hL d (hah d hd))
        by_cases h23 : (chainV (startV (p :: xs)) ah 0).2.2 = 23
        · rw [if_neg (by rw [h23]; decide)] at hs'
          cases hfd : (candV p L).find? (fun i => !refB F (chainV (startV (p :: xs)) ah 0).1 (L.getD i.toNat []) p i) with
          | some i =>
            rw [hfd] at hs'
            have h24 : (24 : Int) = 0 := hs'
            exact absurd h24 (by decide)
          | none =>
            rw [List.find?_eq_none] at hfd
            obtain ⟨hp0, hpm⟩ := hv p (List.mem_cons_self ..)
            have hp3 := varV_pos hp0
            have hnp : negV p = -p := by unfold negV; rw [if_pos hp3.2]
            have hpf : litHolds m p = false := by
              cases e : litHolds m p with
              | false => rfl
              | true => rw [holdsV, List.any_cons, e] at hc; simp at hc
            intro d hd
            show holdsV d (flip1 m p) = true
            rcases List.mem_append.1 hd with hd | hd
            · obtain ⟨x, hx, hxv, hxh⟩ := holds_mem (hL d hd)
              have key : ∃ y ∈ d, varV y ≠ varV p ∧ litHolds m y = true := by
                by_cases e : varV x = varV p
                · rcases (varV_abs hp0).1 e with e1 | e1
                  · rw [e1, hpf] at hxh; cases hxh
                  · obtain ⟨i, hi, hid⟩ := List.getElem_of_mem hd
                    have hgd : L.getD i [] = d := by rw [List.getD_eq_getElem?_getD, List.getElem?_eq_getElem hi, hid]; rfl
                    have hhas : has2V (L.getD i []) (negV p) = true := by
                      rw [hgd, hnp]
                      unfold has2V
                      rw [← e1, decide_eq_true hxv]
                      simpa [hasV] using hx
                    have hmem : (i : Int) ∈ candV p L := by
                      unfold candV candL
                      exact List.mem_map.2 ⟨i, List.mem_filter.2 ⟨List.mem_range.2 hi, hhas⟩, rfl⟩
                    have hb := hfd _ hmem
                    rw [Int.toNat_natCast, hgd] at hb
                    have hb' : refB F (chainV (startV (p :: xs)) ah 0).1 d p (i : Int) = true := by simpa using hb
                    unfold refB at hb'
                    cases hFi : F (i : Int) with
                    | none => rw [hFi] at hb'; cases hb'
                    | some g =>
                      rw [hFi] at hb'
                      obtain ⟨y, hy, hyn, hyh⟩ := refute_sound ha (fun q hq => hL q (hF _ g hFi q hq)) (of_decide_eq_true hb')
                      refine ⟨y, hy, fun e2 => ?_, hyh⟩
                      rcases (varV_abs hp0).1 e2 with e3 | e3
                      · rw [e3, hpf] at hyh; cases hyh
                      · exact hyn (by rw [hnp]; exact e3)
                · exact ⟨x, hx, e, hxh⟩
              obtain ⟨y, hy, hyp, hyh⟩ := key
              rw [holdsV, List.any_eq_true]
              exact ⟨y, hy, by rw [flip1_other hyp]; exact hyh⟩
            · rw [List.mem_singleton.1 hd, holdsV, List.any_cons, flip1_self hp0 hpm]; rfl
        · rw [if_pos h23] at hs'
          have h2 : (chainV (startV (p :: xs)) ah 0).2.2 = 0 := hs'
          exact (chain_sound ah _ 0 (start_all h0 hc) h2 (fun d hd => hL d (hah d (List.mem_of_mem_take hd)))).elim
    · rw [if_pos h0] at hs
      exact absurd hs h0
end Go.Proofs.YtdgflniahoidmaaGreat
