/- Layer 8 (rup), in plain Lean: the beginning, a step, a chain of hints. -/
import Derived.Test.YtdgflniahoidmaaGreatUnits1
import Derived.Test.YtdgflniahoidmaaGreatTaut
set_option maxRecDepth 100000
namespace Go.Proofs.YtdgflniahoidmaaGreat

/-- The opposites of a clause's literals, each once. -/
def startL : List Int → List Int → List Int
  | out, [] => out
  | out, x :: c => startL (if hasV out (-x) then out else out ++ [-x]) c
def badV (c : List Int) : Bool := c.any fun x => decide (varV x = 0)
def startV (c : List Int) : List Int := if badV c then [] else if tautV c then [] else startL [] c
def startE (c : List Int) : Int := if badV c then 10 else if tautV c then 11 else 0
theorem startL_snoc (c : List Int) (x : Int) : ∀ out, startL out (c ++ [x]) = (let o := startL out c; if hasV o (-x) then o else o ++ [-x]) := by
  induction c with
  | nil => intro out; rfl
  | cons y c ih => intro out; rw [List.cons_append, startL, startL, ih]
theorem startL_mem (c : List Int) : ∀ out y, y ∈ startL out c ↔ y ∈ out ∨ -y ∈ c := by
  induction c with
  | nil => intro out y; simp [startL]
  | cons x c ih =>
    intro out y
    rw [startL, ih]
    cases h : hasV out (-x)
    · simp only [Bool.false_eq_true, if_false, List.mem_append, List.mem_cons, List.not_mem_nil, or_false]
      constructor
      · rintro ((h1 | h1) | h1)
        · exact Or.inl h1
        · exact Or.inr (Or.inl (by omega))
        · exact Or.inr (Or.inr h1)
      · rintro (h1 | h1 | h1)
        · exact Or.inl (Or.inl h1)
        · exact Or.inl (Or.inr (by omega))
        · exact Or.inr h1
    · have hm : -x ∈ out := by simpa [hasV] using h
      simp only [if_true, List.mem_cons]
      constructor
      · rintro (h1 | h1)
        · exact Or.inl h1
        · exact Or.inr (Or.inr h1)
      · rintro (h1 | h1 | h1)
        · exact Or.inl h1
        · exact Or.inl (by rw [show y = -x by omega]; exact hm)
        · exact Or.inr h1
theorem startL_len (c : List Int) : ∀ out, (startL out c).length ≤ out.length + c.length := by
  induction c with
  | nil => intro out; simp [startL]
  | cons x c ih =>
    intro out
    rw [startL, List.length_cons]
    cases h : hasV out (-x)
    · have := ih (out ++ [-x])
      rw [List.length_append] at this
      simp at this ⊢
      omega
    · have := ih out
      simp at this ⊢
      omega
theorem has_start (c : List Int) (x : Int) : hasV (startL [] c) (-x) = hasV c x := by
  rw [Bool.eq_iff_iff]
  simp only [hasV, List.any_eq_true, beq_iff_eq, exists_eq_right]
  rw [startL_mem]
  simp
theorem badV_take {c : List Int} {k : Nat} {x : Int} (h : badV (c.take k) = false) (hx : c[k]? = some x) (hv : varV x ≠ 0) : badV (c.take (k + 1)) = false := by
  rw [take_succ_of hx]
  unfold badV at h ⊢
  rw [List.any_append, h]
  simp [hv]
theorem badV_hit {c : List Int} {k : Nat} {x : Int} (hx : c[k]? = some x) (hv : varV x = 0) : badV c = true := by
  rw [badV, List.any_eq_true]; exact ⟨x, List.mem_of_getElem? hx, by simp [hv]⟩
theorem badV_mem {c : List Int} (h : badV c = false) : ∀ x ∈ c, varV x ≠ 0 := by
  intro x hx e
  rw [badV, List.any_eq_false] at h
  exact h x hx (by simp [e])
theorem startL_bd {c : List Int} (h : badV c = false) : ∀ x ∈ startL [] c, -100000 ≤ x ∧ x ≤ 100000 := by
  intro x hx
  rw [startL_mem] at hx
  rcases hx with hx | hx
  · cases hx
  · have := varV_pos (badV_mem h _ hx); omega

/-- A step by a hint: the literals, whether there is a conflict, the error. -/
def stepV (l h : List Int) : List Int × Bool × Int := if failP l h then (l, true, 0) else if unitB l h then (l ++ [unitU l h], false, 0) else ([], false, 22)
def chainV (l : List Int) : List (List Int) → Nat → List Int × Int × Int
  | [], i => (l, i, 23)
  | h :: hs, i => if (stepV l h).2.2 ≠ 0 then ([], i, (stepV l h).2.2) else if (stepV l h).2.1 then ((stepV l h).1, i + 1, 0) else chainV (stepV l h).1 hs (i + 1)
def showU (c : List Int) (hs : List (List Int)) : Int := if startE c ≠ 0 then 0 else (chainV (startV c) hs 0).2.1
def showE (c : List Int) (hs : List (List Int)) : Int := if startE c ≠ 0 then startE c else (chainV (startV c) hs 0).2.2
end Go.Proofs.YtdgflniahoidmaaGreat

/- Layer 8 (rup), in plain Lean: what followed, and by which clauses. -/
namespace Go.Proofs.YtdgflniahoidmaaGreat

/-- The literals t followed of l0, one behind the other; f tells by which clause. -/
structure Fol (L : List (List Int)) (l0 t : List Int) (f : Int → Option Int) : Prop where
  good : Good (l0 ++ t)
  out : ∀ z, z ∉ t → f z = none
  by_ : ∀ (j : Nat) (z : Int), t[j]? = some z → ∃ (i : Nat) (c : List Int), f z = some (i : Int) ∧ L[i]? = some c ∧ unitB (l0 ++ t.take j) c = true ∧ unitU (l0 ++ t.take j) c = z

theorem Fol.nil {L : List (List Int)} {l0 : List Int} (h : Good l0) : Fol L l0 [] fun _ => none :=
  ⟨by simpa using h, fun _ _ => rfl, fun j z hj => by simp at hj⟩

theorem Fol.snoc {L : List (List Int)} {l0 t : List Int} {f : Int → Option Int} (h : Fol L l0 t f) {i : Nat} {c : List Int} (hc : L[i]? = some c) (hu : unitB (l0 ++ t) c = true) :
    Fol L l0 (t ++ [unitU (l0 ++ t) c]) fun z => if z = unitU (l0 ++ t) c then some (i : Int) else f z := by
  obtain ⟨_, hv, h1, h2, _⟩ := unit_lits hu
  refine ⟨by rw [← List.append_assoc]; exact h.good.step hu, fun z hz => ?_, fun j z hj => ?_⟩
  · rw [List.mem_append, List.mem_singleton, not_or] at hz
    simp only [if_neg hz.2]
    exact h.out z hz.1
  · rcases Nat.lt_or_ge j t.length with hlt | hge
    · rw [List.getElem?_append_left hlt] at hj
      have hzt : z ∈ t := List.mem_of_getElem? hj
      have hne : z ≠ unitU (l0 ++ t) c := fun e => by
        rw [hasV_not] at h1
        exact h1 (List.mem_append.2 (Or.inr (e ▸ hzt)))
      obtain ⟨i', c', g1, g2, g3, g4⟩ := h.by_ j z hj
      refine ⟨i', c', by simp only [if_neg hne]; exact g1, g2, ?_, ?_⟩
      · rw [List.take_append_of_le_length (by omega)]; exact g3
      · rw [List.take_append_of_le_length (by omega)]; exact g4
    · have hj' := (List.getElem?_eq_some_iff.1 hj).1
      rw [List.length_append, List.length_singleton] at hj'
      have hje : j = t.length := by omega
      subst hje
      rw [List.getElem?_append_right (Nat.le_refl _), Nat.sub_self] at hj
      have hz : unitU (l0 ++ t) c = z := by simpa using hj
      refine ⟨i, c, by simp only [if_pos hz.symm], hc, ?_, ?_⟩
      · rw [List.take_append_of_le_length (Nat.le_refl _), List.take_length]; exact hu
      · rw [List.take_append_of_le_length (Nat.le_refl _), List.take_length]; exact hz

/-- How it ends: a clause that fails, or none that fails or is unit. -/
def EndF (L : List (List Int)) (l : List Int) (k : Int) : Prop :=
  (k < 0 → k = -1 ∧ ∀ c ∈ L, failP l c = false ∧ unitB l c = false) ∧ (0 ≤ k → ∃ (i : Nat) (c : List Int), k = (i : Int) ∧ L[i]? = some c ∧ failP l c = true)

theorem open_unit {l c : List Int} {L : List (List Int)} (hc : c ∈ L) (hu : unitB l c = true) : openN L (l ++ [unitU l c]) < openN L l := by
  refine openN_mem _ hc ?_
  rw [cnV_step hu]
  unfold unitB at hu
  simp only [Bool.and_eq_true, decide_eq_true_eq] at hu
  omega

/-- What stands of one sweep so far. -/
def SweepF (L : List (List Int)) (l0 t0 t : List Int) (k : Nat) (g : Bool) : Prop := (g = true → t0.length < t.length) ∧ (g = false → t = t0 ∧ ∀ c ∈ L.take k, failP (l0 ++ t) c = false ∧ unitB (l0 ++ t) c = false)
theorem SweepF.nil (L : List (List Int)) (l0 t0 : List Int) : SweepF L l0 t0 t0 0 false := ⟨fun h => (by cases h), fun _ => ⟨rfl, by simp⟩⟩
theorem SweepF.grow {L : List (List Int)} {l0 t0 t : List Int} {k : Nat} {g : Bool} (h : SweepF L l0 t0 t k g) (u : Int) : SweepF L l0 t0 (t ++ [u]) (k + 1) true := by
  refine ⟨fun _ => ?_, fun h => by cases h⟩
  rw [List.length_append, List.length_singleton]
  cases g with
  | true => have := h.1 rfl; omega
  | false => rw [(h.2 rfl).1]; omega
theorem SweepF.skip {L : List (List Int)} {l0 t0 t : List Int} {k : Nat} {g : Bool} (h : SweepF L l0 t0 t k g) {c : List Int} (hc : L[k]? = some c) (h1 : failP (l0 ++ t) c = false) (h2 : unitB (l0 ++ t) c = false) : SweepF L l0 t0 t (k + 1) g := by
  refine ⟨h.1, fun hg => ⟨(h.2 hg).1, fun d hd => ?_⟩⟩
  rw [take_succ_of hc] at hd
  rcases List.mem_append.1 hd with hd | hd
  · exact (h.2 hg).2 d hd
  · rw [List.mem_singleton.1 hd]; exact ⟨h1, h2⟩
end Go.Proofs.YtdgflniahoidmaaGreat

/- Layer 8 (rup), in plain Lean: a clause is put behind those by which its opposites followed; these hints show the clause. -/
namespace Go.Proofs.YtdgflniahoidmaaGreat

def negI (x : Int) : Int := if x = -9223372036854775808 then x else -x
theorem negI_ok {x : Int} (h : varV (negI x) ≠ 0) : negI x = -x ∧ varV x ≠ 0 := by
  unfold negI at h ⊢
  by_cases e : x = -9223372036854775808
  · subst e; exact absurd (by decide) h
  · rw [if_neg e] at h ⊢; exact ⟨rfl, by rw [← varV_neg]; exact h⟩
theorem negI_of {x : Int} (h : varV x ≠ 0) : negI x = -x := by
  have := varV_pos h
  unfold negI; rw [if_neg (by omega)]

/-- What put does to what was seen, and to what comes out. -/
def putV (L : List (List Int)) (f : Int → Option Int) : Nat → Int → List Int × List Int → List Int × List Int
  | 0, _, st => st
  | fu + 1, i, st => if i ∈ st.1 then st else
      let r := (L.getD i.toNat []).foldl (fun st x => match f (negI x) with | none => st | some k => putV L f fu k st) (st.1 ++ [i], st.2)
      (r.1, r.2 ++ [i])
def litV (L : List (List Int)) (f : Int → Option Int) (fu : Nat) (st : List Int × List Int) (x : Int) : List Int × List Int := match f (negI x) with | none => st | some k => putV L f fu k st
theorem putV_succ (L : List (List Int)) (f : Int → Option Int) (fu : Nat) (i : Int) (st : List Int × List Int) (h : i ∉ st.1) :
    putV L f (fu + 1) i st = (((L.getD i.toNat []).foldl (litV L f fu) (st.1 ++ [i], st.2)).1, ((L.getD i.toNat []).foldl (litV L f fu) (st.1 ++ [i], st.2)).2 ++ [i]) := by
  rw [putV, if_neg h]; rfl
theorem putV_seen (L : List (List Int)) (f : Int → Option Int) (fu : Nat) (i : Int) (st : List Int × List Int) (h : i ∈ st.1) : putV L f (fu + 1) i st = st := by rw [putV, if_pos h]

/-- The calls end. -/
def DeepV (L : List (List Int)) (f : Int → Option Int) : Nat → Int → Prop
  | 0, _ => False
  | fu + 1, i => 0 ≤ i ∧ i < L.length ∧ ∀ x ∈ L.getD i.toNat [], ∀ k, f (negI x) = some k → DeepV L f fu k
theorem DeepV.succ {L : List (List Int)} {f : Int → Option Int} : ∀ {fu : Nat} {i : Int}, DeepV L f fu i → DeepV L f (fu + 1) i
  | 0, _, h => h.elim
  | _ + 1, _, h => ⟨h.1, h.2.1, fun x hx k hk => (h.2.2 x hx k hk).succ⟩

/-- What was seen is in order. -/
def SOk (L : List (List Int)) (st : List Int × List Int) : Prop := st.1.Nodup ∧ (∀ x ∈ st.1, 0 ≤ x ∧ x < (L.length : Int)) ∧ st.2.length ≤ st.1.length ∧ (∀ x ∈ st.2, x ∈ st.1)
theorem SOk.nil (L : List (List Int)) : SOk L ([], []) := ⟨List.nodup_nil, by simp, Nat.le_refl _, by simp⟩
theorem SOk.push {L : List (List Int)} {st : List Int × List Int} (h : SOk L st) {i : Int} (hi : i ∉ st.1) (h0 : 0 ≤ i) (h1 : i < (L.length : Int)) : SOk L (st.1 ++ [i], st.2) ∧ (st.2.length + 1 ≤ (st.1 ++ [i]).length) := by
  refine ⟨⟨?_, ?_, by have := h.2.2.1; simp; omega, fun x hx => List.mem_append_left _ (h.2.2.2 x hx)⟩, by have := h.2.2.1; simp; omega⟩
  · rw [List.nodup_append]
    exact ⟨h.1, by simp, fun a ha b hb => by rw [List.mem_singleton.1 hb]; rintro rfl; exact hi ha⟩
  · intro x hx
    rcases List.mem_append.1 hx with hx | hx
    · exact h.2.1 x hx
    · rw [List.mem_singleton.1 hx]; exact ⟨h0, h1⟩
theorem SOk.len {L : List (List Int)} {st : List Int × List Int} (h : SOk L st) : st.1.length ≤ L.length := by
  have := nodup_le (a := st.1) (b := (List.range L.length).map fun j : Nat => (j : Int)) h.1 (fun x hx => by
    obtain ⟨h0, h1⟩ := h.2.1 x hx
    rw [List.mem_map]
    exact ⟨x.toNat, by rw [List.mem_range]; omega, by omega⟩)
  simpa using this
/-- The room between what was seen and what came out does not shrink. -/
def Room (a b : List Int × List Int) : Prop := (∀ x ∈ a.1, x ∈ b.1) ∧ a.1.length + b.2.length ≤ b.1.length + a.2.length
theorem Room.refl (a : List Int × List Int) : Room a a := ⟨fun _ h => h, by omega⟩
theorem Room.trans {a b c : List Int × List Int} (h : Room a b) (k : Room b c) : Room a c := ⟨fun x hx => k.1 x (h.1 x hx), by have := h.2; have := k.2; omega⟩
theorem putV_ok (L : List (List Int)) (f : Int → Option Int) : ∀ (fu : Nat) (i : Int) (st : List Int × List Int), DeepV L f fu i → SOk L st → SOk L (putV L f fu i st) ∧ Room st (putV L f fu i st)
  | 0, _, _, h, _ => h.elim
  | fu + 1, i, st, hd, h => by
    by_cases hi : i ∈ st.1
    · rw [putV_seen L f fu i st hi]; exact ⟨h, Room.refl _⟩
    · rw [putV_succ L f fu i st hi]
      obtain ⟨p1, p2⟩ := h.push hi hd.1 hd.2.1
      have key : ∀ (cs : List Int) (a : List Int × List Int), (∀ x ∈ cs, ∀ k, f (negI x) = some k → DeepV L f fu k) → SOk L a → SOk L (cs.foldl (litV L f fu) a) ∧ Room a (cs.foldl (litV L f fu) a) := by
        intro cs
        induction cs with
        | nil => intro a _ ha; exact ⟨ha, Room.refl _⟩
        | cons x cs ih =>
          intro a hc ha
          rw [List.foldl_cons]
          have h1 : SOk L (litV L f fu a x) ∧ Room a (litV L f fu a x) := by
            unfold litV
            cases e : f (negI x) with
            | none => exact ⟨ha, Room.refl _⟩
            | some k => exact putV_ok L f fu k a (hc x (List.mem_cons_self ..) k e) ha
          obtain ⟨h2, h3⟩ := ih (litV L f fu a x) (fun y hy => hc y (List.mem_cons_of_mem _ hy)) h1.1
          exact ⟨h2, h1.2.trans h3⟩
      obtain ⟨k1, k2⟩ := key _ _ hd.2.2 p1
      have hmem := k2.1 i (by simp)
      have hlen := k2.2
      refine ⟨⟨k1.1, k1.2.1, ?_, ?_⟩, fun x hx => k2.1 x (by simp [hx]), ?_⟩
      · have := p2; simp only [List.length_append, List.length_singleton] at hlen this ⊢; omega
      · intro x hx
        rcases List.mem_append.1 hx with hx | hx
        · exact k1.2.2.2 x hx
        · rw [List.mem_singleton.1 hx]; exact hmem
      · simp only [List.length_append, List.length_singleton] at hlen ⊢; omega

section
variable {L : List (List Int)} {l0 t : List Int} {f : Int → Option Int}
theorem Fol.some_mem (h : Fol L l0 t f) {z k : Int} (e : f z = some k) : z ∈ t := by
  by_cases hz : z ∈ t
  · exact hz
  · rw [h.out z hz] at e; cases e
theorem Fol.neg_mem (h : Fol L l0 t f) {x k : Int} (e : f (negI x) = some k) : negI x = -x ∧ varV x ≠ 0 ∧ -x ∈ t := by
  have h1 := h.some_mem e
  have h2 := h.good.1 _ (List.mem_append_right _ h1)
  obtain ⟨e1, e2⟩ := negI_ok h2
  exact ⟨e1, e2, by rw [← e1]; exact h1⟩
theorem Fol.dis (h : Fol L l0 t f) {z : Int} (h1 : z ∈ l0) (h2 : z ∈ t) : False := by
  have := h.good.nodup
  rw [List.nodup_append] at this
  exact this.2.2 z h1 z h2 rfl
theorem Fol.at (h : Fol L l0 t f) {z k : Int} (e : f z = some k) : ∃ (j i : Nat) (c : List Int), t[j]? = some z ∧ k = (i : Int) ∧ L[i]? = some c ∧ unitB (l0 ++ t.take j) c = true ∧ unitU (l0 ++ t.take j) c = z ∧ z ∉ t.take j := by
  obtain ⟨j, hj⟩ := List.mem_iff_getElem?.1 (h.some_mem e)
  obtain ⟨i, c, e1, e2, e3, e4⟩ := h.by_ j z hj
  rw [e] at e1
  refine ⟨j, i, c, hj, Option.some.inj e1, e2, e3, e4, fun hz => ?_⟩
  have := (unit_lits e3).2.2.1
  rw [e4, hasV_not] at this
  exact this (List.mem_append_right _ hz)
/-- In the clause by which z followed all others' opposites stood ahead of z. -/
theorem Fol.ahead (h : Fol L l0 t f) {j : Nat} {z x : Int} {c : List Int} (hj : t[j]? = some z) (hu : unitB (l0 ++ t.take j) c = true) (hz : unitU (l0 ++ t.take j) c = z) (hx : x ∈ c) (hv : varV x ≠ 0) (hn : -x ∈ t) : -x ∈ t.take j := by
  have hzt : z ∈ t := List.mem_of_getElem? hj
  by_cases e : x = z
  · subst e
    exact absurd (List.mem_append_right l0 hzt) (h.good.neg (List.mem_append_right l0 hn))
  · have := ((unit_lits hu).2.2.2.2 x hx hv (by rw [hz]; exact e)).2
    rw [hasV_mem] at this
    rcases List.mem_append.1 this with h1 | h1
    · exact (h.dis h1 hn).elim
    · exact h1
theorem Fol.inj (h : Fol L l0 t f) {a b k : Int} (ha : f a = some k) (hb : f b = some k) : a = b := by
  have key : ∀ {a b : Int} {j1 j2 i : Nat} {c : List Int}, t[j1]? = some a → t[j2]? = some b → unitB (l0 ++ t.take j1) c = true → unitU (l0 ++ t.take j1) c = a → unitB (l0 ++ t.take j2) c = true → unitU (l0 ++ t.take j2) c = b → L[i]? = some c → j1 < j2 → a = b := by
    intro a b j1 j2 i c g1 g2 u1 v1 u2 v2 _ hlt
    by_cases e : a = b
    · exact e
    · have hc := (unit_lits u1).1
      have hv := (unit_lits u1).2.1
      rw [v1] at hc hv
      have := ((unit_lits u2).2.2.2.2 a hc hv (by rw [v2]; exact e)).1
      rw [hasV_not] at this
      exact absurd (List.mem_append_right l0 (List.mem_take_iff_getElem.2 ⟨j1, by have := (List.getElem?_eq_some_iff.1 g1).1; omega, (List.getElem?_eq_some_iff.1 g1).2⟩)) this
  obtain ⟨j1, i1, c1, g1, k1, l1, u1, v1, _⟩ := h.at ha
  obtain ⟨j2, i2, c2, g2, k2, l2, u2, v2, _⟩ := h.at hb
  have hi : i1 = i2 := by omega
  subst hi
  have hc : c1 = c2 := by rw [l1] at l2; exact Option.some.inj l2
  subst hc
  rcases Nat.lt_trichotomy j1 j2 with hlt | heq | hgt
  · exact key g1 g2 u1 v1 u2 v2 l1 hlt
  · subst heq; rw [g1] at g2; exact Option.some.inj g2
  · exact (key g2 g1 u2 v2 u1 v1 l1 hgt).symm
theorem getD_of {i : Nat} {c : List Int} (h : L[i]? = some c) : L.getD ((i : Int).toNat) [] = c := by
  rw [Int.toNat_natCast, List.getD_eq_getElem?_getD, h]; rfl
theorem Fol.deep (h : Fol L l0 t f) : ∀ (j : Nat) (z k : Int), z ∈ t.take j → f z = some k → DeepV L f j k
  | 0, z, k, hz, _ => by simp at hz
  | j + 1, z, k, hz, hk => by
    obtain ⟨j0, i, c, g, rfl, l, u, v, hnz⟩ := h.at hk
    by_cases hzj : z ∈ t.take j
    · exact (Fol.deep h j z _ hzj hk).succ
    · have hj : j0 ≤ j := by
        by_cases hle : j0 ≤ j
        · exact hle
        · exfalso
          refine hnz ?_
          have : t.take (j + 1) = (t.take j0).take (j + 1) := by rw [List.take_take, Nat.min_eq_left (by omega)]
          rw [this] at hz
          exact List.mem_of_mem_take hz
      refine ⟨by omega, by have := (List.getElem?_eq_some_iff.1 l).1; omega, fun x hx k' hk' => ?_⟩
      rw [getD_of l] at hx
      obtain ⟨e1, e2, e3⟩ := h.neg_mem hk'
      have h4 := h.ahead g u v hx e2 e3
      refine Fol.deep h j _ k' ?_ hk'
      rw [e1]
      have : t.take j0 = (t.take j).take j0 := by rw [List.take_take, Nat.min_eq_left hj]
      rw [this] at h4
      exact List.mem_of_mem_take h4
theorem Fol.deep_last (h : Fol L l0 t f) {i : Nat} {c : List Int} (hc : L[i]? = some c) : DeepV L f (t.length + 1) i := by
  refine ⟨by omega, by have := (List.getElem?_eq_some_iff.1 hc).1; omega, fun x _ k hk => ?_⟩
  obtain ⟨e1, _, e3⟩ := h.neg_mem hk
  exact h.deep t.length (negI x) k (by rw [List.take_length, e1]; exact e3) hk

/-- The rows of numbers. -/
def rowsN (L : List (List Int)) (o : List Int) : List (List Int) := o.map fun i => L.getD i.toNat []
/-- These hints lead on, to these literals. -/
def InvO (L : List (List Int)) (l0 t : List Int) (f : Int → Option Int) (o : List Int) : Prop :=
  ∃ d : List Int, (∀ z ∈ d, z ∈ t) ∧ (∀ z ∈ d, ∃ i ∈ o, f z = some i) ∧ (∀ i ∈ o, ∃ z ∈ d, f z = some i) ∧ ∀ hs n, chainV l0 (rowsN L o ++ hs) n = chainV (l0 ++ d) hs (n + o.length)
theorem InvO.nil : InvO L l0 t f [] := ⟨[], by simp, by simp, by simp, fun hs n => by simp [rowsN]⟩

theorem unit_of {l l' c : List Int} {z : Int} (hu : unitB l c = true) (hz : unitU l c = z) (h1 : ∀ x ∈ c, varV x ≠ 0 → x ≠ z → hasV l' x = false ∧ hasV l' (-x) = true) (h2 : hasV l' z = false) (h3 : hasV l' (-z) = false) :
    stepV l' c = (l' ++ [z], false, 0) := by
  obtain ⟨g1, g2, g3, g4, g5⟩ := unit_lits hu
  rw [hz] at g1 g2 g3 g4 g5
  have k1 : cnV l' c 1 = 0 := by
    unfold cnV
    rw [List.countP_eq_zero.2]
    · rfl
    · intro x hx hc
      simp only [Bool.and_eq_true, decide_eq_true_eq] at hc
      have hx1 : hasV l' x = false := by
        by_cases e : x = z
        · rw [e]; exact h2
        · exact (h1 x hx hc.1 e).1
      have := hc.2
      rw [valueV, if_neg hc.1, hx1] at this
      cases h3 : hasV l' (-x) <;> rw [h3] at this <;> cases this
  have hb : cnV l c 0 = 1 := by unfold unitB at hu; simp only [Bool.and_eq_true, decide_eq_true_eq] at hu; exact hu.2
  have hzz : valueV l' z = 0 := by rw [valueV, if_neg g2, h2, h3]; rfl
  have k0 : cnV l' c 0 = 1 := by
    have : (c.countP fun x => decide (varV x ≠ 0) && decide (valueV l' x = 0)) = c.countP fun x => decide (varV x ≠ 0) && decide (valueV l x = 0) := by
      refine List.countP_congr fun x hx => ?_
      simp only [Bool.and_eq_true, decide_eq_true_eq]
      constructor
      · rintro ⟨hv, h0⟩
        obtain ⟨z1, z2⟩ := valueV_zero hv h0
        by_cases e : x = z
        · rw [e]; refine ⟨g2, ?_⟩; rw [valueV, if_neg g2, g3, g4]; rfl
        · rw [(h1 x hx hv e).2] at z2; cases z2
      · rintro ⟨hv, h0⟩
        obtain ⟨z1, z2⟩ := valueV_zero hv h0
        by_cases e : x = z
        · rw [e]; exact ⟨g2, hzz⟩
        · rw [(g5 x hx hv e).2] at z2; cases z2
    unfold cnV at hb ⊢
    rw [this]; exact hb
  have hub : unitB l' c = true := unitB_of k1 k0
  have huu : unitU l' c = z := by
    obtain ⟨q1, q2, q3, q4, _⟩ := unit_lits hub
    by_cases e : unitU l' c = z
    · exact e
    · have := (h1 _ q1 q2 e).2
      rw [q4] at this; cases this
  have hf : failP l' c = false := by
    cases h : failP l' c with
    | false => rfl
    | true =>
      have := (fail_lits h z g1 g2).2
      rw [h3] at this; cases this
  rw [stepV, hf, hub, huu]; rfl

/-- What put comes to. -/
structure PutOk (L : List (List Int)) (l0 t : List Int) (f : Int → Option Int) (a b : List Int × List Int) : Prop where
  inv : InvO L l0 t f b.2
  more : ∀ k ∈ a.2, k ∈ b.2
  seen : ∀ k ∈ a.1, k ∈ b.1
  sub : ∀ k ∈ b.2, k ∈ b.1
  open_ : ∀ k ∈ b.1, k ∈ b.2 ∨ k ∈ a.1
  fresh : ∀ k ∈ b.2, k ∈ a.2 ∨ k ∉ a.1
theorem PutOk.refl {a : List Int × List Int} (h : InvO L l0 t f a.2) (hs : ∀ k ∈ a.2, k ∈ a.1) : PutOk L l0 t f a a := ⟨h, fun _ h => h, fun _ h => h, hs, fun _ h => Or.inr h, fun _ h => Or.inl h⟩
theorem PutOk.trans {a b c : List Int × List Int} (h : PutOk L l0 t f a b) (k : PutOk L l0 t f b c) : PutOk L l0 t f a c :=
  ⟨k.inv, fun x hx => k.more x (h.more x hx), fun x hx => k.seen x (h.seen x hx), k.sub, fun x hx => by
    rcases k.open_ x hx with h1 | h1
    · exact Or.inl h1
    · rcases h.open_ x h1 with h2 | h2
      · exact Or.inl (k.more x h2)
      · exact Or.inr h2, fun x hx => by
    rcases k.fresh x hx with h1 | h1
    · exact h.fresh x h1
    · exact Or.inr (fun h2 => h1 (h.seen x h2))⟩

/-- The fold over a clause's numbers. -/
theorem fold_ok (hF : Fol L l0 t f) (fu j : Nat) (i : Int)
    (ih : ∀ (z k : Int) (a : List Int × List Int), z ∈ t.take j → f z = some k → InvO L l0 t f a.2 → (∀ k ∈ a.2, k ∈ a.1) → (∀ z' ∈ t.take j, ∀ k', f z' = some k' → k' ∈ a.1 → k' ∈ a.2) → PutOk L l0 t f a (putV L f fu k a) ∧ k ∈ (putV L f fu k a).2)
    (hi : ∀ z' ∈ t.take j, f z' ≠ some i) :
    ∀ (cs : List Int) (a : List Int × List Int), (∀ x ∈ cs, ∀ k, f (negI x) = some k → negI x ∈ t.take j) → InvO L l0 t f a.2 → (∀ k ∈ a.2, k ∈ a.1) → (∀ z' ∈ t.take j, ∀ k', f z' = some k' → k' ∈ a.1 → k' ∈ a.2) →
      PutOk L l0 t f a (cs.foldl (litV L f fu) a) ∧ ∀ x ∈ cs, ∀ k, f (negI x) = some k → k ∈ (cs.foldl (litV L f fu) a).2
  | [], a, _, h1, h2, _ => ⟨PutOk.refl h1 h2, by simp⟩
  | x :: cs, a, hc, h1, h2, h3 => by
    rw [List.foldl_cons]
    have hstep : PutOk L l0 t f a (litV L f fu a x) ∧ ∀ k, f (negI x) = some k → k ∈ (litV L f fu a x).2 := by
      unfold litV
      cases e : f (negI x) with
      | none => exact ⟨PutOk.refl h1 h2, fun k hk => by cases hk⟩
      | some k =>
        obtain ⟨q1, q2⟩ := ih (negI x) k a (hc x (List.mem_cons_self ..) k e) e h1 h2 h3
        exact ⟨q1, fun k' hk' => by cases hk'; exact q2⟩
    obtain ⟨p1, p2⟩ := hstep
    have h3' : ∀ z' ∈ t.take j, ∀ k', f z' = some k' → k' ∈ (litV L f fu a x).1 → k' ∈ (litV L f fu a x).2 := fun z' hz' k' hk' hs => by
      rcases p1.open_ k' hs with h4 | h4
      · exact h4
      · exact p1.more k' (h3 z' hz' k' hk' h4)
    obtain ⟨q1, q2⟩ := fold_ok hF fu j i ih hi cs (litV L f fu a x) (fun y hy => hc y (List.mem_cons_of_mem _ hy)) p1.inv p1.sub h3'
    refine ⟨p1.trans q1, fun y hy k hk => ?_⟩
    rcases List.mem_cons.1 hy with e | e
    · subst e; exact q1.more k (p2 k hk)
    · exact q2 y e k hk

end
end Go.Proofs.YtdgflniahoidmaaGreat

/- Layer 8 (rup), in plain Lean: the hints that are found show the clause; they are found just where it follows by units. -/
namespace Go.Proofs.YtdgflniahoidmaaGreat

section
variable {L : List (List Int)} {l0 t : List Int} {f : Int → Option Int}
theorem InvO.subset {d : List Int} (hd : ∀ z ∈ d, z ∈ t) {x : Int} (hx : x ∈ l0 ++ d) : x ∈ l0 ++ t := by
  rcases List.mem_append.1 hx with h | h
  · exact List.mem_append_left _ h
  · exact List.mem_append_right _ (hd x h)
theorem put_ok (hF : Fol L l0 t f) : ∀ (fu j : Nat), j ≤ fu → ∀ (z k : Int) (a : List Int × List Int), z ∈ t.take j → f z = some k → InvO L l0 t f a.2 → (∀ k ∈ a.2, k ∈ a.1) → (∀ z' ∈ t.take j, ∀ k', f z' = some k' → k' ∈ a.1 → k' ∈ a.2) →
    PutOk L l0 t f a (putV L f fu k a) ∧ k ∈ (putV L f fu k a).2
  | 0, j, hj, z, _, _, hz, _, _, _, _ => by obtain rfl : j = 0 := by omega
                                            simp at hz
  | fu + 1, j, hj, z, k, a, hz, hk, h1, h2, h3 => by
    by_cases hs : k ∈ a.1
    · rw [putV_seen L f fu k a hs]; exact ⟨PutOk.refl h1 h2, h3 z hz k hk hs⟩
    · obtain ⟨j0, i, c, g, rfl, l, u, v, hnz⟩ := hF.at hk
      have hj0 : j0 < j := by
        by_cases hle : j0 < j
        · exact hle
        · exfalso
          refine hnz ?_
          have : t.take j = (t.take j0).take j := by rw [List.take_take, Nat.min_eq_left (by omega)]
          rw [this] at hz
          exact List.mem_of_mem_take hz
      have htk : ∀ x, x ∈ t.take j0 → x ∈ t.take j := fun x hx => by
        have : t.take j0 = (t.take j).take j0 := by rw [List.take_take, Nat.min_eq_left (by omega)]
        rw [this] at hx
        exact List.mem_of_mem_take hx
      have hzt : z ∈ t := List.mem_of_getElem? g
      have hne : ∀ z' ∈ t.take j0, f z' ≠ some (i : Int) := fun z' hz' e => by
        have := hF.inj e hk
        rw [this] at hz'
        exact hnz hz'
      rw [putV_succ L f fu _ a hs, getD_of l]
      obtain ⟨q1, q2⟩ := fold_ok hF fu j0 i (fun z' k' b hz' hk' => put_ok hF fu j0 (by omega) z' k' b hz' hk') hne c (a.1 ++ [(i : Int)], a.2)
        (fun x hx k' hk' => by
          obtain ⟨e1, e2, e3⟩ := hF.neg_mem hk'
          rw [e1]
          exact hF.ahead g u v hx e2 e3)
        h1 (fun k' hk' => List.mem_append_left _ (h2 k' hk'))
        (fun z' hz' k' hk' hs' => by
          rcases List.mem_append.1 hs' with h4 | h4
          · exact h3 z' (htk z' hz') k' hk' h4
          · rw [List.mem_singleton.1 h4] at hk'
            exact absurd hk' (hne z' hz'))
      generalize c.foldl (litV L f fu) (a.1 ++ [(i : Int)], a.2) = r at q1 q2
      have hir : (i : Int) ∉ r.2 := fun e => by
        rcases q1.fresh _ e with h4 | h4
        · exact hs (h2 _ h4)
        · exact h4 (by simp)
      obtain ⟨d, d1, d2, d3, d4⟩ := q1.inv
      have hgz : z ∈ l0 ++ t := List.mem_append_right _ hzt
      have hstep : stepV (l0 ++ d) c = (l0 ++ d ++ [z], false, 0) := by
        refine unit_of u v (fun x hx hv hxz => ?_) ?_ ?_
        · have hm := ((unit_lits u).2.2.2.2 x hx hv (by rw [v]; exact hxz)).2
          rw [hasV_mem] at hm
          have hin : -x ∈ l0 ++ d := by
            rcases List.mem_append.1 hm with h4 | h4
            · exact List.mem_append_left _ h4
            · obtain ⟨jj, hjj⟩ := List.mem_iff_getElem?.1 (List.mem_of_mem_take h4)
              obtain ⟨i', _, e1, _⟩ := hF.by_ jj _ hjj
              obtain ⟨y, hy, hfy⟩ := d3 _ (q2 x hx i' (by rw [negI_of hv]; exact e1))
              rw [hF.inj e1 hfy]
              exact List.mem_append_right _ hy
          exact ⟨hasV_not.2 (fun e => hF.good.neg (InvO.subset d1 hin) (InvO.subset d1 e)), hasV_mem.2 hin⟩
        · refine hasV_not.2 (fun e => ?_)
          rcases List.mem_append.1 e with h4 | h4
          · exact hF.dis h4 hzt
          · obtain ⟨i', hi', e1⟩ := d2 z h4
            rw [hk] at e1
            rw [Option.some.inj e1] at hir
            exact hir hi'
        · exact hasV_not.2 (fun e => hF.good.neg (InvO.subset d1 e) hgz)
      refine ⟨⟨⟨d ++ [z], ?_, ?_, ?_, ?_⟩, ?_, ?_, ?_, ?_, ?_⟩, by simp⟩
      · intro y hy
        rcases List.mem_append.1 hy with hy | hy
        · exact d1 y hy
        · rw [List.mem_singleton.1 hy]; exact hzt
      · intro y hy
        rcases List.mem_append.1 hy with hy | hy
        · obtain ⟨i', h4, h5⟩ := d2 y hy
          exact ⟨i', List.mem_append_left _ h4, h5⟩
        · rw [List.mem_singleton.1 hy]; exact ⟨_, by simp, hk⟩
      · intro i' hi'
        rcases List.mem_append.1 hi' with hi' | hi'
        · obtain ⟨y, h4, h5⟩ := d3 i' hi'
          exact ⟨y, List.mem_append_left _ h4, h5⟩
        · rw [List.mem_singleton.1 hi']; exact ⟨z, by simp, hk⟩
      · intro hs' n
        have e1 : rowsN L (r.2 ++ [(i : Int)]) ++ hs' = rowsN L r.2 ++ (c :: hs') := by
          unfold rowsN
          rw [List.map_append, List.append_assoc, List.map_singleton, getD_of l]; rfl
        rw [e1, d4, chainV, hstep, List.length_append, List.length_singleton, ← List.append_assoc, ← Nat.add_assoc]; rfl
      · exact fun k' hk' => List.mem_append_left _ (q1.more k' hk')
      · exact fun k' hk' => q1.seen k' (List.mem_append_left _ hk')
      · intro k' hk'
        rcases List.mem_append.1 hk' with h4 | h4
        · exact q1.sub k' h4
        · rw [List.mem_singleton.1 h4]; exact q1.seen _ (by simp)
      · intro k' hk'
        rcases q1.open_ k' hk' with h4 | h4
        · exact Or.inl (List.mem_append_left _ h4)
        · rcases List.mem_append.1 h4 with h5 | h5
          · exact Or.inr h5
          · exact Or.inl (by rw [List.mem_singleton.1 h5]; simp)
      · intro k' hk'
        rcases List.mem_append.1 hk' with h4 | h4
        · rcases q1.fresh k' h4 with h5 | h5
          · exact Or.inl h5
          · exact Or.inr (fun h6 => h5 (List.mem_append_left _ h6))
        · rw [List.mem_singleton.1 h4]; exact Or.inr hs

theorem hints_show (hF : Fol L l0 t f) {i : Nat} {c : List Int} (hc : L[i]? = some c) (hf : failP (l0 ++ t) c = true) :
    (chainV l0 (rowsN L (putV L f (t.length + 1) i ([], [])).2) 0).2 = (((putV L f (t.length + 1) i ([], [])).2.length : Int), 0) := by
  have hne : ∀ z' ∈ t.take t.length, f z' ≠ some (i : Int) := fun z' hz' e => by
    obtain ⟨j0, i', c', g, e1, l, u, v, _⟩ := hF.at e
    have : i' = i := by omega
    subst this
    rw [hc] at l
    obtain rfl := Option.some.inj l
    have h1 := (unit_lits u).1
    have h2 := (unit_lits u).2.1
    rw [v] at h1 h2
    have := (fail_lits hf z' h1 h2).1
    rw [hasV_not] at this
    exact this (List.mem_append_right _ (List.mem_of_getElem? g))
  rw [putV_succ L f _ _ _ (by simp), getD_of hc]
  obtain ⟨q1, q2⟩ := fold_ok hF t.length t.length i (fun z' k' b hz' hk' => put_ok hF t.length t.length (Nat.le_refl _) z' k' b hz' hk') hne c ([] ++ [(i : Int)], [])
    (fun x hx k' hk' => by
      obtain ⟨e1, e2, e3⟩ := hF.neg_mem hk'
      rw [e1, List.take_length]; exact e3)
    InvO.nil (by simp)
    (fun z' hz' k' hk' hs' => by
      have h4 : k' = (i : Int) := by simpa using hs'
      rw [h4] at hk'
      exact absurd hk' (hne z' hz'))
  dsimp only
  generalize c.foldl (litV L f t.length) ([] ++ [(i : Int)], []) = r at q1 q2 ⊢
  obtain ⟨d, d1, d2, d3, d4⟩ := q1.inv
  have hfd : failP (l0 ++ d) c = true := fail_of fun x hx hv => by
    have hm := (fail_lits hf x hx hv).2
    rw [hasV_mem] at hm
    have hin : -x ∈ l0 ++ d := by
      rcases List.mem_append.1 hm with h4 | h4
      · exact List.mem_append_left _ h4
      · obtain ⟨jj, hjj⟩ := List.mem_iff_getElem?.1 h4
        obtain ⟨i', _, e1, _⟩ := hF.by_ jj _ hjj
        obtain ⟨y, hy, hfy⟩ := d3 _ (q2 x hx i' (by rw [negI_of hv]; exact e1))
        rw [hF.inj e1 hfy]
        exact List.mem_append_right _ hy
    exact ⟨hasV_not.2 (fun e => hF.good.neg (InvO.subset d1 hin) (InvO.subset d1 e)), hasV_mem.2 hin⟩
  have hstep : stepV (l0 ++ d) c = (l0 ++ d, true, 0) := by rw [stepV, hfd]; rfl
  have e1 : rowsN L (r.2 ++ [(i : Int)]) = rowsN L r.2 ++ [c] := by
    unfold rowsN
    rw [List.map_append, List.map_singleton, getD_of hc]
  rw [e1, d4, chainV, hstep, List.length_append, List.length_singleton]
  simp
end

/-! ### found just where the clause follows by units -/
theorem start_good {c : List Int} (h : startE c = 0) : Good (startV c) ∧ startV c = startL [] c ∧ badV c = false ∧ tautV c = false := by
  unfold startE at h
  cases hb : badV c with
  | true => rw [hb] at h; simp at h
  | false =>
    rw [hb] at h
    cases ht : tautV c with
    | true => rw [ht] at h; simp at h
    | false =>
      have hs : startV c = startL [] c := by rw [startV, hb, ht]; rfl
      refine ⟨?_, hs, rfl, rfl⟩
      rw [hs]
      have hnd : ∀ (c : List Int) (out : List Int), out.Nodup → (startL out c).Nodup := by
        intro c
        induction c with
        | nil => intro out h; exact h
        | cons x c ih =>
          intro out h
          rw [startL]
          refine ih _ ?_
          cases hh : hasV out (-x) with
          | true => exact h
          | false =>
            rw [if_neg (by simp), List.nodup_append]
            rw [hasV_not] at hh
            exact ⟨h, by simp, fun a ha b hb' => by rw [List.mem_singleton.1 hb']; rintro rfl; exact hh ha⟩
      have hval : ∀ x ∈ startL [] c, varV x ≠ 0 := fun x hx => by
        rw [startL_mem] at hx
        rcases hx with hx | hx
        · cases hx
        · have := badV_mem hb _ hx
          rwa [varV_neg] at this
      refine ⟨hval, ?_⟩
      have h1 := hnd c [] List.nodup_nil
      rw [List.nodup_iff_pairwise_ne] at h1
      rw [List.nodup_iff_pairwise_ne, List.pairwise_map]
      refine h1.imp_of_mem (fun {a b} ha hb' hab => fun e => ?_)
      rcases varV_eq (hval b hb') e with e | e
      · exact hab e
      · rw [tautV, List.any_eq_false] at ht
        rw [startL_mem] at ha hb'
        have ha' : -a ∈ c := by rcases ha with h | h; cases h; exact h
        have hb'' : -b ∈ c := by rcases hb' with h | h; cases h; exact h
        refine ht (-a) ha' ?_
        have hva := badV_mem hb _ ha'
        have hneg : negV (-a) = a := by have := varV_pos hva; unfold negV; rw [if_pos (by omega)]; omega
        unfold tautP has2V
        rw [hneg, varV_neg]
        rw [varV_neg] at hva
        have : a ∈ c := by rw [e]; exact hb''
        simp only [Bool.and_eq_true, decide_eq_true_eq, hasV_mem]
        exact ⟨⟨hva, ha'⟩, hva, this⟩
theorem hasV_congr {l l' : List Int} (h : ∀ x, x ∈ l ↔ x ∈ l') (x : Int) : hasV l x = hasV l' x := by rw [Bool.eq_iff_iff, hasV_mem, hasV_mem]; exact h x
theorem valueV_congr {l l' : List Int} (h : ∀ x, x ∈ l ↔ x ∈ l') : valueV l = valueV l' := by
  funext x; unfold valueV; rw [hasV_congr h, hasV_congr h]
theorem cnV_congr {l l' : List Int} (h : ∀ x, x ∈ l ↔ x ∈ l') (c : List Int) (v : Int) : cnV l c v = cnV l' c v := by unfold cnV; rw [valueV_congr h]
theorem failP_congr {l l' : List Int} (h : ∀ x, x ∈ l ↔ x ∈ l') : failP l = failP l' := by
  funext c; unfold failP clauseV; rw [cnV_congr h, cnV_congr h]
theorem unitB_congr {l l' : List Int} (h : ∀ x, x ∈ l ↔ x ∈ l') : unitB l = unitB l' := by
  funext c; unfold unitB; rw [cnV_congr h, cnV_congr h]
theorem unitU_congr {l l' : List Int} (h : ∀ x, x ∈ l ↔ x ∈ l') : unitU l = unitU l' := by
  have e : opP l = opP l' := by funext x; unfold opP; rw [valueV_congr h]
  funext c; unfold unitU openV; rw [unitB_congr h, e]
theorem propV_congr (L : List (List Int)) : ∀ (k : Nat) (l l' b b' : List Int), (∀ x, x ∈ l ↔ x ∈ l') → (propV L k l b).2.2 = (propV L k l' b').2.2
  | 0, _, _, _, _, _ => rfl
  | k + 1, l, l', b, b', h => by
    have e1 : failsV l L = failsV l' L := by unfold failsV; rw [failP_congr h]
    have e2 : nextU l L = nextU l' L := by unfold nextU; rw [unitB_congr h]
    have e3 : nextS l L = nextS l' L := by unfold nextS; rw [unitB_congr h, unitU_congr h]
    unfold propV
    rw [e1, e2, e3]
    by_cases hf : 0 ≤ failsV l' L
    · rw [if_pos hf, if_pos hf]
    · rw [if_neg hf, if_neg hf]
      by_cases hn : nextU l' L < 0
      · rw [if_pos hn, if_pos hn]
      · rw [if_neg hn, if_neg hn]
        exact propV_congr L k _ _ _ _ (fun x => by rw [List.mem_append, List.mem_append, h x])
theorem fol_sub {L : List (List Int)} {l0 t a : List Int} {f : Int → Option Int} (hF : Fol L l0 t f) (ha : Good a) (hs : ∀ x ∈ l0, x ∈ a) (hf : failsV a L < 0) (hn : nextU a L < 0) : ∀ x ∈ l0 ++ t, x ∈ a := by
  have key : ∀ j, ∀ x ∈ t.take j, x ∈ a := by
    intro j
    induction j with
    | zero => simp
    | succ j ih =>
      intro x hx
      by_cases hlt : j < t.length
      · have hg : t[j]? = some t[j] := List.getElem?_eq_getElem hlt
        rw [take_succ_of hg] at hx
        rcases List.mem_append.1 hx with hx | hx
        · exact ih x hx
        · rw [List.mem_singleton.1 hx]
          obtain ⟨i, c, _, e2, e3, e4⟩ := hF.by_ j _ hg
          rw [← e4]
          have hc := List.mem_of_getElem? e2
          refine sub_step ha (fun y hy => ?_) (fails_none hf c hc) (next_none hn c hc) e3
          rcases List.mem_append.1 hy with hy | hy
          · exact hs y hy
          · exact ih y hy
      · rw [List.take_of_length_le (by omega)] at hx
        exact ih x (by rw [List.take_of_length_le (by omega)]; exact hx)
  intro x hx
  rcases List.mem_append.1 hx with hx | hx
  · exact hs x hx
  · exact key t.length x (by rw [List.take_length]; exact hx)
theorem hints_ref {L : List (List Int)} {c t : List Int} {f : Int → Option Int} {k : Int} (hE : startE c = 0) (hF : Fol L (startV c) t f) (hk : EndF L (startV c ++ t) k) : decide (0 ≤ k) = refutesV L c := by
  obtain ⟨hg, hs, hb, ht⟩ := start_good hE
  have hmem : ∀ x, x ∈ oppsV c ↔ x ∈ startV c := by
    intro x
    rw [hs, startL_mem]
    unfold oppsV
    rw [List.mem_map]
    constructor
    · rintro ⟨y, hy, rfl⟩
      right
      rw [Int.neg_neg]
      exact (List.mem_filter.1 hy).1
    · rintro (hx | hx)
      · cases hx
      · refine ⟨-x, List.mem_filter.2 ⟨hx, by simpa using badV_mem hb _ hx⟩, by omega⟩
  have hp := propV_congr L (mostN L + 1) (oppsV c) (startV c) [] [] hmem
  unfold refutesV
  rw [ht, Bool.false_or, hp]
  by_cases h0 : k < 0
  · obtain ⟨_, hall⟩ := hk.1 h0
    have hf : failsV (startV c ++ t) L < 0 := by
      rw [failsV, idxP_neg, List.findIdx?_eq_none_iff]; exact fun c hc => (hall c hc).1
    have hn : nextU (startV c ++ t) L < 0 := by
      rw [nextU, idxP_neg, List.findIdx?_eq_none_iff]; exact fun c hc => (hall c hc).2
    have := (prop_sub (L := L) (M := L) (l := startV c) (a := startV c ++ t) (fun _ h => h) hF.good (fun x hx => List.mem_append_left _ hx) hf hn (mostN L + 1)).2
    rw [decide_eq_false (by omega), decide_eq_false (by omega)]
  · obtain ⟨i, cl, _, hi, hfl⟩ := hk.2 (by omega)
    have h1 : 0 ≤ (propV L (mostN L + 1) (startV c) []).2.2 := by
      by_cases h : 0 ≤ (propV L (mostN L + 1) (startV c) []).2.2
      · exact h
      · exfalso
        obtain ⟨e1, e2⟩ := propV_end' L (startV c) (by omega)
        have hga := prop_good (L := L) hg (mostN L + 1)
        obtain ⟨q, hq⟩ := propV_pre L (mostN L + 1) (startV c) []
        have hsub := fol_sub hF hga (fun x hx => by rw [hq]; exact List.mem_append_left _ hx) e1 e2
        have := sub_fail hga hsub (fails_none e1 cl (List.mem_of_getElem? hi))
        rw [this] at hfl; cases hfl
    rw [decide_eq_true (by omega), decide_eq_true h1]
end Go.Proofs.YtdgflniahoidmaaGreat
