/- Layer 8 (rup), in plain Lean: the hints that are found show the clause; they are found just where it follows by units. -/
import Derived.Test.YtdhohoabcokdjaaHints2P
import Derived.Test.YtdhohoabcokdjaaUnits6
set_option maxRecDepth 100000
namespace Go.Proofs.Ytdhohoabcokdjaa

section
variable {L : List (List Int)} {l0 t : List Int} {f : Int → Option Int}
theorem InvO.subset {d : List Int} (hd : ∀ z ∈ d, z ∈ t) {x : Int} (hx : x ∈ l0 ++ d) : x ∈ l0 ++ t := by
  rcases List.mem_append.1 hx with h | h
  · exact List.mem_append_left _ h
  · exact List.mem_append_right _ (hd x h)
theorem put_ok (hF : Fol L l0 t f) : ∀ (fu j : Nat), j ≤ fu → ∀ (z k : Int) (a : List Int × List Int), z ∈ t.take j → f z = some k → InvO L l0 t f a.2 → (∀ k ∈ a.2, k ∈ a.1) → (∀ z' ∈ t.take j, ∀ k', f z' = some k' → k' ∈ a.1 → k' ∈ a.2) →
    PutOk L l0 t f a (putV L f fu k a) ∧ k ∈ (putV L f fu k a).2
  | 0, j, hj, z, _, _, hz, _, _, _, _ => by obtain rfl : j = 0 := by omega
                                            simp at hz
  | fu + 1, j, hj, z, k, a, hz, hk, h1, h2, h3 => by
    by_cases hs : k ∈ a.1
    · rw [putV_seen L f fu k a hs]; exact ⟨PutOk.refl h1 h2, h3 z hz k hk hs⟩
    · obtain ⟨j0, i, c, g, rfl, l, u, v, hnz⟩ := hF.at hk
      have hj0 : j0 < j := by
        by_cases hle : j0 < j
        · exact hle
        · exfalso
          refine hnz ?_
          have : t.take j = (t.take j0).take j := by rw [List.take_take, Nat.min_eq_left (by omega)]
          rw [this] at hz
          exact List.mem_of_mem_take hz
      have htk : ∀ x, x ∈ t.take j0 → x ∈ t.take j := fun x hx => by
        have : t.take j0 = (t.take j).take j0 := by rw [List.take_take, Nat.min_eq_left (by omega)]
        rw [this] at hx
        exact List.mem_of_mem_take hx
      have hzt : z ∈ t := List.mem_of_getElem? g
      have hne : ∀ z' ∈ t.take j0, f z' ≠ some (i : Int) := fun z' hz' e => by
        have := hF.inj e hk
        rw [this] at hz'
        exact hnz hz'
      rw [putV_succ L f fu _ a hs, getD_of l]
      obtain ⟨q1, q2⟩ := fold_ok hF fu j0 i (fun z' k' b hz' hk' => put_ok hF fu j0 (by omega) z' k' b hz' hk') hne c (a.1 ++ [(i : Int)], a.2)
        (fun x hx k' hk' => by
          obtain ⟨e1, e2, e3⟩ := hF.neg_mem hk'
          rw [e1]
          exact hF.ahead g u v hx e2 e3)
        h1 (fun k' hk' => List.mem_append_left _ (h2 k' hk'))
        (fun z' hz' k' hk' hs' => by
          rcases List.mem_append.1 hs' with h4 | h4
          · exact h3 z' (htk z' hz') k' hk' h4
          · rw [List.mem_singleton.1 h4] at hk'
            exact absurd hk' (hne z' hz'))
      generalize c.foldl (litV L f fu) (a.1 ++ [(i : Int)], a.2) = r at q1 q2
      have hir : (i : Int) ∉ r.2 := fun e => by
        rcases q1.fresh _ e with h4 | h4
        · exact hs (h2 _ h4)
        · exact h4 (by simp)
      obtain ⟨d, d1, d2, d3, d4⟩ := q1.inv
      have hgz : z ∈ l0 ++ t := List.mem_append_right _ hzt
      have hstep : stepV (l0 ++ d) c = (l0 ++ d ++ [z], false, 0) := by
        refine unit_of u v (fun x hx hv hxz => ?_) ?_ ?_
        · have hm := ((unit_lits u).2.2.2.2 x hx hv (by rw [v]; exact hxz)).2
          rw [hasV_mem] at hm
          have hin : -x ∈ l0 ++ d := by
            rcases List.mem_append.1 hm with h4 | h4
            · exact List.mem_append_left _ h4
            · obtain ⟨jj, hjj⟩ := List.mem_iff_getElem?.1 (List.mem_of_mem_take h4)
              obtain ⟨i', _, e1, _⟩ := hF.by_ jj _ hjj
              obtain ⟨y, hy, hfy⟩ := d3 _ (q2 x hx i' (by rw [negI_of hv]; exact e1))
              rw [hF.inj e1 hfy]
              exact List.mem_append_right _ hy
          exact ⟨hasV_not.2 (fun e => hF.good.neg (InvO.subset d1 hin) (InvO.subset d1 e)), hasV_mem.2 hin⟩
        · refine hasV_not.2 (fun e => ?_)
          rcases List.mem_append.1 e with h4 | h4
          · exact hF.dis h4 hzt
          · obtain ⟨i', hi', e1⟩ := d2 z h4
            rw [hk] at e1
            rw [Option.some.inj e1] at hir
            exact hir hi'
        · exact hasV_not.2 (fun e => hF.good.neg (InvO.subset d1 e) hgz)
      refine ⟨⟨⟨d ++ [z], ?_, ?_, ?_, ?_⟩, ?_, ?_, ?_, ?_, ?_⟩, by simp⟩
      · intro y hy
        rcases List.mem_append.1 hy with hy | hy
        · exact d1 y hy
        · rw [List.mem_singleton.1 hy]; exact hzt
      · intro y hy
        rcases List.mem_append.1 hy with hy | hy
        · obtain ⟨i', h4, h5⟩ := d2 y hy
          exact ⟨i', List.mem_append_left _ h4, h5⟩
        · rw [List.mem_singleton.1 hy]; exact ⟨_, by simp, hk⟩
      · intro i' hi'
        rcases List.mem_append.1 hi' with hi' | hi'
        · obtain ⟨y, h4, h5⟩ := d3 i' hi'
          exact ⟨y, List.mem_append_left _ h4, h5⟩
        · rw [List.mem_singleton.1 hi']; exact ⟨z, by simp, hk⟩
      · intro hs' n
        have e1 : rowsN L (r.2 ++ [(i : Int)]) ++ hs' = rowsN L r.2 ++ (c :: hs') := by
          unfold rowsN
          rw [List.map_append, List.append_assoc, List.map_singleton, getD_of l]; rfl
        rw [e1, d4, chainV, hstep, List.length_append, List.length_singleton, ← List.append_assoc, ← Nat.add_assoc]; rfl
      · exact fun k' hk' => List.mem_append_left _ (q1.more k' hk')
      · exact fun k' hk' => q1.seen k' (List.mem_append_left _ hk')
      · intro k' hk'
        rcases List.mem_append.1 hk' with h4 | h4
        · exact q1.sub k' h4
        · rw [List.mem_singleton.1 h4]; exact q1.seen _ (by simp)
      · intro k' hk'
        rcases q1.open_ k' hk' with h4 | h4
        · exact Or.inl (List.mem_append_left _ h4)
        · rcases List.mem_append.1 h4 with h5 | h5
          · exact Or.inr h5
          · exact Or.inl (by rw [List.mem_singleton.1 h5]; simp)
      · intro k' hk'
        rcases List.mem_append.1 hk' with h4 | h4
        · rcases q1.fresh k' h4 with h5 | h5
          · exact Or.inl h5
          · exact Or.inr (fun h6 => h5 (List.mem_append_left _ h6))
        · rw [List.mem_singleton.1 h4]; exact Or.inr hs

theorem hints_show (hF : Fol L l0 t f) {i : Nat} {c : List Int} (hc : L[i]? = some c) (hf : failP (l0 ++ t) c = true) :
    (chainV l0 (rowsN L (putV L f (t.length + 1) i ([], [])).2) 0).2 = (((putV L f (t.length + 1) i ([], [])).2.length : Int), 0) := by
  have hne : ∀ z' ∈ t.take t.length, f z' ≠ some (i : Int) := fun z' hz' e => by
    obtain ⟨j0, i', c', g, e1, l, u, v, _⟩ := hF.at e
    have : i' = i := by omega
    subst this
    rw [hc] at l
    obtain rfl := Option.some.inj l
    have h1 := (unit_lits u).1
    have h2 := (unit_lits u).2.1
    rw [v] at h1 h2
    have := (fail_lits hf z' h1 h2).1
    rw [hasV_not] at this
    exact this (List.mem_append_right _ (List.mem_of_getElem? g))
  rw [putV_succ L f _ _ _ (by simp), getD_of hc]
  obtain ⟨q1, q2⟩ := fold_ok hF t.length t.length i (fun z' k' b hz' hk' => put_ok hF t.length t.length (Nat.le_refl _) z' k' b hz' hk') hne c ([] ++ [(i : Int)], [])
    (fun x hx k' hk' => by
      obtain ⟨e1, e2, e3⟩ := hF.neg_mem hk'
      rw [e1, List.take_length]; exact e3)
    InvO.nil (by simp)
    (fun z' hz' k' hk' hs' => by
      have h4 : k' = (i : Int) := by simpa using hs'
      rw [h4] at hk'
      exact absurd hk' (hne z' hz'))
  dsimp only
  generalize c.foldl (litV L f t.length) ([] ++ [(i : Int)], []) = r at q1 q2 ⊢
  obtain ⟨d, d1, d2, d3, d4⟩ := q1.inv
  have hfd : failP (l0 ++ d) c = true := fail_of fun x hx hv => by
    have hm := (fail_lits hf x hx hv).2
    rw [hasV_mem] at hm
    have hin : -x ∈ l0 ++ d := by
      rcases List.mem_append.1 hm with h4 | h4
      · exact List.mem_append_left _ h4
      · obtain ⟨jj, hjj⟩ := List.mem_iff_getElem?.1 h4
        obtain ⟨i', _, e1, _⟩ := hF.by_ jj _ hjj
        obtain ⟨y, hy, hfy⟩ := d3 _ (q2 x hx i' (by rw [negI_of hv]; exact e1))
        rw [hF.inj e1 hfy]
        exact List.mem_append_right _ hy
    exact ⟨hasV_not.2 (fun e => hF.good.neg (InvO.subset d1 hin) (InvO.subset d1 e)), hasV_mem.2 hin⟩
  have hstep : stepV (l0 ++ d) c = (l0 ++ d, true, 0) := by rw [stepV, hfd]; rfl
  have e1 : rowsN L (r.2 ++ [(i : Int)]) = rowsN L r.2 ++ [c] := by
    unfold rowsN
    rw [List.map_append, List.map_singleton, getD_of hc]
  rw [e1, d4, chainV, hstep, List.length_append, List.length_singleton]
  simp
end

/-! ### found just where the clause follows by units -/
theorem start_good {c : List Int} (h : startE c = 0) : Good (startV c) ∧ startV c = startL [] c ∧ badV c = false ∧ tautV c = false := by
  unfold startE at h
  cases hb : badV c with
  | true => rw [hb] at h; simp at h
  | false =>
    rw [hb] at h
    cases ht : tautV c with
    | true => rw [ht] at h; simp at h
    | false =>
      have hs : startV c = startL [] c := by rw [startV, hb, ht]; rfl
      refine ⟨?_, hs, rfl, rfl⟩
      rw [hs]
      have hnd : ∀ (c : List Int) (out : List Int), out.Nodup → (startL out c).Nodup := by
        intro c
        induction c with
        | nil => intro out h; exact h
        | cons x c ih =>
          intro out h
          rw [startL]
          refine ih _ ?_
          cases hh : hasV out (-x) with
          | true => exact h
          | false =>
            rw [if_neg (by simp), List.nodup_append]
            rw [hasV_not] at hh
            exact ⟨h, by simp, fun a ha b hb' => by rw [List.mem_singleton.1 hb']; rintro rfl; exact hh ha⟩
      have hval : ∀ x ∈ startL [] c, varV x ≠ 0 := fun x hx => by
        rw [startL_mem] at hx
        rcases hx with hx | hx
        · cases hx
        · have := badV_mem hb _ hx
          rwa [varV_neg] at this
      refine ⟨hval, ?_⟩
      have h1 := hnd c [] List.nodup_nil
      rw [List.nodup_iff_pairwise_ne] at h1
      rw [List.nodup_iff_pairwise_ne, List.pairwise_map]
      refine h1.imp_of_mem (fun {a b} ha hb' hab => fun e => ?_)
      rcases varV_eq (hval b hb') e with e | e
      · exact hab e
      · rw [tautV, List.any_eq_false] at ht
        rw [startL_mem] at ha hb'
        have ha' : -a ∈ c := by rcases ha with h | h; cases h; exact h
        have hb'' : -b ∈ c := by rcases hb' with h | h; cases h; exact h
        refine ht (-a) ha' ?_
        have hva := badV_mem hb _ ha'
        have hneg : negV (-a) = a := by have := varV_pos hva; unfold negV; rw [if_pos (by omega)]; omega
        unfold tautP has2V
        rw [hneg, varV_neg]
        rw [varV_neg] at hva
        have : a ∈ c := by rw [e]; exact hb''
        simp only [Bool.and_eq_true, decide_eq_true_eq, hasV_mem]
        exact ⟨⟨hva, ha'⟩, hva, this⟩
theorem hasV_congr {l l' : List Int} (h : ∀ x, x ∈ l ↔ x ∈ l') (x : Int) : hasV l x = hasV l' x := by rw [Bool.eq_iff_iff, hasV_mem, hasV_mem]; exact h x
theorem valueV_congr {l l' : List Int} (h : ∀ x, x ∈ l ↔ x ∈ l') : valueV l = valueV l' := by
  funext x; unfold valueV; rw [hasV_congr h, hasV_congr h]
theorem cnV_congr {l l' : List Int} (h : ∀ x, x ∈ l ↔ x ∈ l') (c : List Int) (v : Int) : cnV l c v = cnV l' c v := by unfold cnV; rw [valueV_congr h]
theorem failP_congr {l l' : List Int} (h : ∀ x, x ∈ l ↔ x ∈ l') : failP l = failP l' := by
  funext c; unfold failP clauseV; rw [cnV_congr h, cnV_congr h]
theorem unitB_congr {l l' : List Int} (h : ∀ x, x ∈ l ↔ x ∈ l') : unitB l = unitB l' := by
  funext c; unfold unitB; rw [cnV_congr h, cnV_congr h]
theorem unitU_congr {l l' : List Int} (h : ∀ x, x ∈ l ↔ x ∈ l') : unitU l = unitU l' := by
  have e : opP l = opP l' := by funext x; unfold opP; rw [valueV_congr h]
  funext c; unfold unitU openV; rw [unitB_congr h, e]
theorem propV_congr (L : List (List Int)) : ∀ (k : Nat) (l l' b b' : List Int), (∀ x, x ∈ l ↔ x ∈ l') → (propV L k l b).2.2 = (propV L k l' b').2.2
  | 0, _, _, _, _, _ => rfl
  | k + 1, l, l', b, b', h => by
    have e1 : failsV l L = failsV l' L := by unfold failsV; rw [failP_congr h]
    have e2 : nextU l L = nextU l' L := by unfold nextU; rw [unitB_congr h]
    have e3 : nextS l L = nextS l' L := by unfold nextS; rw [unitB_congr h, unitU_congr h]
    unfold propV
    rw [e1, e2, e3]
    by_cases hf : 0 ≤ failsV l' L
    · rw [if_pos hf, if_pos hf]
    · rw [if_neg hf, if_neg hf]
      by_cases hn : nextU l' L < 0
      · rw [if_pos hn, if_pos hn]
      · rw [if_neg hn, if_neg hn]
        exact propV_congr L k _ _ _ _ (fun x => by rw [List.mem_append, List.mem_append, h x])
theorem fol_sub {L : List (List Int)} {l0 t a : List Int} {f : Int → Option Int} (hF : Fol L l0 t f) (ha : Good a) (hs : ∀ x ∈ l0, x ∈ a) (hf : failsV a L < 0) (hn : nextU a L < 0) : ∀ x ∈ l0 ++ t, x ∈ a := by
  have key : ∀ j, ∀ x ∈ t.take j, x ∈ a := by
    intro j
    induction j with
    | zero => simp
    | succ j ih =>
      intro x hx
      by_cases hlt : j < t.length
      · have hg : t[j]? = some t[j] := List.getElem?_eq_getElem hlt
        rw [take_succ_of hg] at hx
        rcases List.mem_append.1 hx with hx | hx
        · exact ih x hx
        · rw [List.mem_singleton.1 hx]
          obtain ⟨i, c, _, e2, e3, e4⟩ := hF.by_ j _ hg
          rw [← e4]
          have hc := List.mem_of_getElem? e2
          refine sub_step ha (fun y hy => ?_) (fails_none hf c hc) (next_none hn c hc) e3
          rcases List.mem_append.1 hy with hy | hy
          · exact hs y hy
          · exact ih y hy
      · rw [List.take_of_length_le (by omega)] at hx
        exact ih x (by rw [List.take_of_length_le (by omega)]; exact hx)
  intro x hx
  rcases List.mem_append.1 hx with hx | hx
  · exact hs x hx
  · exact key t.length x (by rw [List.take_length]; exact hx)
theorem hints_ref {L : List (List Int)} {c t : List Int} {f : Int → Option Int} {k : Int} (hE : startE c = 0) (hF : Fol L (startV c) t f) (hk : EndF L (startV c ++ t) k) : decide (0 ≤ k) = refutesV L c := by
  obtain ⟨hg, hs, hb, ht⟩ := start_good hE
  have hmem : ∀ x, x ∈ oppsV c ↔ x ∈ startV c := by
    intro x
    rw [hs, startL_mem]
    unfold oppsV
    rw [List.mem_map]
    constructor
    · rintro ⟨y, hy, rfl⟩
      right
      rw [Int.neg_neg]
      exact (List.mem_filter.1 hy).1
    · rintro (hx | hx)
      · cases hx
      · refine ⟨-x, List.mem_filter.2 ⟨hx, by simpa using badV_mem hb _ hx⟩, by omega⟩
  have hp := propV_congr L (mostN L + 1) (oppsV c) (startV c) [] [] hmem
  unfold refutesV
  rw [ht, Bool.false_or, hp]
  by_cases h0 : k < 0
  · obtain ⟨_, hall⟩ := hk.1 h0
    have hf : failsV (startV c ++ t) L < 0 := by
      rw [failsV, idxP_neg, List.findIdx?_eq_none_iff]; exact fun c hc => (hall c hc).1
    have hn : nextU (startV c ++ t) L < 0 := by
      rw [nextU, idxP_neg, List.findIdx?_eq_none_iff]; exact fun c hc => (hall c hc).2
    have := (prop_sub (L := L) (M := L) (l := startV c) (a := startV c ++ t) (fun _ h => h) hF.good (fun x hx => List.mem_append_left _ hx) hf hn (mostN L + 1)).2
    rw [decide_eq_false (by omega), decide_eq_false (by omega)]
  · obtain ⟨i, cl, _, hi, hfl⟩ := hk.2 (by omega)
    have h1 : 0 ≤ (propV L (mostN L + 1) (startV c) []).2.2 := by
      by_cases h : 0 ≤ (propV L (mostN L + 1) (startV c) []).2.2
      · exact h
      · exfalso
        obtain ⟨e1, e2⟩ := propV_end' L (startV c) (by omega)
        have hga := prop_good (L := L) hg (mostN L + 1)
        obtain ⟨q, hq⟩ := propV_pre L (mostN L + 1) (startV c) []
        have hsub := fol_sub hF hga (fun x hx => by rw [hq]; exact List.mem_append_left _ hx) e1 e2
        have := sub_fail hga hsub (fails_none e1 cl (List.mem_of_getElem? hi))
        rw [this] at hfl; cases hfl
    rw [decide_eq_true (by omega), decide_eq_true h1]
end Go.Proofs.Ytdhohoabcokdjaa
