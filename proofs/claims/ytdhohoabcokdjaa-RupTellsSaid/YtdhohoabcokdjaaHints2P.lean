/- Layer 8 (rup), in plain Lean: a clause is put behind those by which its opposites followed; these hints show the clause. -/
import Derived.Test.YtdhohoabcokdjaaHintsP
set_option maxRecDepth 100000
namespace Go.Proofs.Ytdhohoabcokdjaa

def negI (x : Int) : Int := if x = -9223372036854775808 then x else -x
theorem negI_ok {x : Int} (h : varV (negI x) ≠ 0) : negI x = -x ∧ varV x ≠ 0 := by
  unfold negI at h ⊢
  by_cases e : x = -9223372036854775808
  · subst e; exact absurd (by decide) h
  · rw [if_neg e] at h ⊢; exact ⟨rfl, by rw [← varV_neg]; exact h⟩
theorem negI_of {x : Int} (h : varV x ≠ 0) : negI x = -x := by
  have := varV_pos h
  unfold negI; rw [if_neg (by omega)]

/-- What put does to what was seen, and to what comes out. -/
def putV (L : List (List Int)) (f : Int → Option Int) : Nat → Int → List Int × List Int → List Int × List Int
  | 0, _, st => st
  | fu + 1, i, st => if i ∈ st.1 then st else
      let r := (L.getD i.toNat []).foldl (fun st x => match f (negI x) with | none => st | some k => putV L f fu k st) (st.1 ++ [i], st.2)
      (r.1, r.2 ++ [i])
def litV (L : List (List Int)) (f : Int → Option Int) (fu : Nat) (st : List Int × List Int) (x : Int) : List Int × List Int := match f (negI x) with | none => st | some k => putV L f fu k st
theorem putV_succ (L : List (List Int)) (f : Int → Option Int) (fu : Nat) (i : Int) (st : List Int × List Int) (h : i ∉ st.1) :
    putV L f (fu + 1) i st = (((L.getD i.toNat []).foldl (litV L f fu) (st.1 ++ [i], st.2)).1, ((L.getD i.toNat []).foldl (litV L f fu) (st.1 ++ [i], st.2)).2 ++ [i]) := by
  rw [putV, if_neg h]; rfl
theorem putV_seen (L : List (List Int)) (f : Int → Option Int) (fu : Nat) (i : Int) (st : List Int × List Int) (h : i ∈ st.1) : putV L f (fu + 1) i st = st := by rw [putV, if_pos h]

/-- The calls end. -/
def DeepV (L : List (List Int)) (f : Int → Option Int) : Nat → Int → Prop
  | 0, _ => False
  | fu + 1, i => 0 ≤ i ∧ i < L.length ∧ ∀ x ∈ L.getD i.toNat [], ∀ k, f (negI x) = some k → DeepV L f fu k
theorem DeepV.succ {L : List (List Int)} {f : Int → Option Int} : ∀ {fu : Nat} {i : Int}, DeepV L f fu i → DeepV L f (fu + 1) i
  | 0, _, h => h.elim
  | _ + 1, _, h => ⟨h.1, h.2.1, fun x hx k hk => (h.2.2 x hx k hk).succ⟩

/-- What was seen is in order. -/
def SOk (L : List (List Int)) (st : List Int × List Int) : Prop := st.1.Nodup ∧ (∀ x ∈ st.1, 0 ≤ x ∧ x < (L.length : Int)) ∧ st.2.length ≤ st.1.length ∧ (∀ x ∈ st.2, x ∈ st.1)
theorem SOk.nil (L : List (List Int)) : SOk L ([], []) := ⟨List.nodup_nil, by simp, Nat.le_refl _, by simp⟩
theorem SOk.push {L : List (List Int)} {st : List Int × List Int} (h : SOk L st) {i : Int} (hi : i ∉ st.1) (h0 : 0 ≤ i) (h1 : i < (L.length : Int)) : SOk L (st.1 ++ [i], st.2) ∧ (st.2.length + 1 ≤ (st.1 ++ [i]).length) := by
  refine ⟨⟨?_, ?_, by have := h.2.2.1; simp; omega, fun x hx => List.mem_append_left _ (h.2.2.2 x hx)⟩, by have := h.2.2.1; simp; omega⟩
  · rw [List.nodup_append]
    exact ⟨h.1, by simp, fun a ha b hb => by rw [List.mem_singleton.1 hb]; rintro rfl; exact hi ha⟩
  · intro x hx
    rcases List.mem_append.1 hx with hx | hx
    · exact h.2.1 x hx
    · rw [List.mem_singleton.1 hx]; exact ⟨h0, h1⟩
theorem SOk.len {L : List (List Int)} {st : List Int × List Int} (h : SOk L st) : st.1.length ≤ L.length := by
  have := nodup_le (a := st.1) (b := (List.range L.length).map fun j : Nat => (j : Int)) h.1 (fun x hx => by
    obtain ⟨h0, h1⟩ := h.2.1 x hx
    rw [List.mem_map]
    exact ⟨x.toNat, by rw [List.mem_range]; omega, by omega⟩)
  simpa using this
/-- The room between what was seen and what came out does not shrink. -/
def Room (a b : List Int × List Int) : Prop := (∀ x ∈ a.1, x ∈ b.1) ∧ a.1.length + b.2.length ≤ b.1.length + a.2.length
theorem Room.refl (a : List Int × List Int) : Room a a := ⟨fun _ h => h, by omega⟩
theorem Room.trans {a b c : List Int × List Int} (h : Room a b) (k : Room b c) : Room a c := ⟨fun x hx => k.1 x (h.1 x hx), by have := h.2; have := k.2; omega⟩
theorem putV_ok (L : List (List Int)) (f : Int → Option Int) : ∀ (fu : Nat) (i : Int) (st : List Int × List Int), DeepV L f fu i → SOk L st → SOk L (putV L f fu i st) ∧ Room st (putV L f fu i st)
  | 0, _, _, h, _ => h.elim
  | fu + 1, i, st, hd, h => by
    by_cases hi : i ∈ st.1
    · rw [putV_seen L f fu i st hi]; exact ⟨h, Room.refl _⟩
    · rw [putV_succ L f fu i st hi]
      obtain ⟨p1, p2⟩ := h.push hi hd.1 hd.2.1
      have key : ∀ (cs : List Int) (a : List Int × List Int), (∀ x ∈ cs, ∀ k, f (negI x) = some k → DeepV L f fu k) → SOk L a → SOk L (cs.foldl (litV L f fu) a) ∧ Room a (cs.foldl (litV L f fu) a) := by
        intro cs
        induction cs with
        | nil => intro a _ ha; exact ⟨ha, Room.refl _⟩
        | cons x cs ih =>
          intro a hc ha
          rw [List.foldl_cons]
          have h1 : SOk L (litV L f fu a x) ∧ Room a (litV L f fu a x) := by
            unfold litV
            cases e : f (negI x) with
            | none => exact ⟨ha, Room.refl _⟩
            | some k => exact putV_ok L f fu k a (hc x (List.mem_cons_self ..) k e) ha
          obtain ⟨h2, h3⟩ := ih (litV L f fu a x) (fun y hy => hc y (List.mem_cons_of_mem _ hy)) h1.1
          exact ⟨h2, h1.2.trans h3⟩
      obtain ⟨k1, k2⟩ := key _ _ hd.2.2 p1
      have hmem := k2.1 i (by simp)
      have hlen := k2.2
      refine ⟨⟨k1.1, k1.2.1, ?_, ?_⟩, fun x hx => k2.1 x (by simp [hx]), ?_⟩
      · have := p2; simp only [List.length_append, List.length_singleton] at hlen this ⊢; omega
      · intro x hx
        rcases List.mem_append.1 hx with hx | hx
        · exact k1.2.2.2 x hx
        · rw [List.mem_singleton.1 hx]; exact hmem
      · simp only [List.length_append, List.length_singleton] at hlen ⊢; omega

section
variable {L : List (List Int)} {l0 t : List Int} {f : Int → Option Int}
theorem Fol.some_mem (h : Fol L l0 t f) {z k : Int} (e : f z = some k) : z ∈ t := by
  by_cases hz : z ∈ t
  · exact hz
  · rw [h.out z hz] at e; cases e
theorem Fol.neg_mem (h : Fol L l0 t f) {x k : Int} (e : f (negI x) = some k) : negI x = -x ∧ varV x ≠ 0 ∧ -x ∈ t := by
  have h1 := h.some_mem e
  have h2 := h.good.1 _ (List.mem_append_right _ h1)
  obtain ⟨e1, e2⟩ := negI_ok h2
  exact ⟨e1, e2, by rw [← e1]; exact h1⟩
theorem Fol.dis (h : Fol L l0 t f) {z : Int} (h1 : z ∈ l0) (h2 : z ∈ t) : False := by
  have := h.good.nodup
  rw [List.nodup_append] at this
  exact this.2.2 z h1 z h2 rfl
theorem Fol.at (h : Fol L l0 t f) {z k : Int} (e : f z = some k) : ∃ (j i : Nat) (c : List Int), t[j]? = some z ∧ k = (i : Int) ∧ L[i]? = some c ∧ unitB (l0 ++ t.take j) c = true ∧ unitU (l0 ++ t.take j) c = z ∧ z ∉ t.take j := by
  obtain ⟨j, hj⟩ := List.mem_iff_getElem?.1 (h.some_mem e)
  obtain ⟨i, c, e1, e2, e3, e4⟩ := h.by_ j z hj
  rw [e] at e1
  refine ⟨j, i, c, hj, Option.some.inj e1, e2, e3, e4, fun hz => ?_⟩
  have := (unit_lits e3).2.2.1
  rw [e4, hasV_not] at this
  exact this (List.mem_append_right _ hz)
/-- In the clause by which z followed all others' opposites stood ahead of z. -/
theorem Fol.ahead (h : Fol L l0 t f) {j : Nat} {z x : Int} {c : List Int} (hj : t[j]? = some z) (hu : unitB (l0 ++ t.take j) c = true) (hz : unitU (l0 ++ t.take j) c = z) (hx : x ∈ c) (hv : varV x ≠ 0) (hn : -x ∈ t) : -x ∈ t.take j := by
  have hzt : z ∈ t := List.mem_of_getElem? hj
  by_cases e : x = z
  · subst e
    exact absurd (List.mem_append_right l0 hzt) (h.good.neg (List.mem_append_right l0 hn))
  · have := ((unit_lits hu).2.2.2.2 x hx hv (by rw [hz]; exact e)).2
    rw [hasV_mem] at this
    rcases List.mem_append.1 this with h1 | h1
    · exact (h.dis h1 hn).elim
    · exact h1
theorem Fol.inj (h : Fol L l0 t f) {a b k : Int} (ha : f a = some k) (hb : f b = some k) : a = b := by
  have key : ∀ {a b : Int} {j1 j2 i : Nat} {c : List Int}, t[j1]? = some a → t[j2]? = some b → unitB (l0 ++ t.take j1) c = true → unitU (l0 ++ t.take j1) c = a → unitB (l0 ++ t.take j2) c = true → unitU (l0 ++ t.take j2) c = b → L[i]? = some c → j1 < j2 → a = b := by
    intro a b j1 j2 i c g1 g2 u1 v1 u2 v2 _ hlt
    by_cases e : a = b
    · exact e
    · have hc := (unit_lits u1).1
      have hv := (unit_lits u1).2.1
      rw [v1] at hc hv
      have := ((unit_lits u2).2.2.2.2 a hc hv (by rw [v2]; exact e)).1
      rw [hasV_not] at this
      exact absurd (List.mem_append_right l0 (List.mem_take_iff_getElem.2 ⟨j1, by have := (List.getElem?_eq_some_iff.1 g1).1; omega, (List.getElem?_eq_some_iff.1 g1).2⟩)) this
  obtain ⟨j1, i1, c1, g1, k1, l1, u1, v1, _⟩ := h.at ha
  obtain ⟨j2, i2, c2, g2, k2, l2, u2, v2, _⟩ := h.at hb
  have hi : i1 = i2 := by omega
  subst hi
  have hc : c1 = c2 := by rw [l1] at l2; exact Option.some.inj l2
  subst hc
  rcases Nat.lt_trichotomy j1 j2 with hlt | heq | hgt
  · exact key g1 g2 u1 v1 u2 v2 l1 hlt
  · subst heq; rw [g1] at g2; exact Option.some.inj g2
  · exact (key g2 g1 u2 v2 u1 v1 l1 hgt).symm
theorem getD_of {i : Nat} {c : List Int} (h : L[i]? = some c) : L.getD ((i : Int).toNat) [] = c := by
  rw [Int.toNat_natCast, List.getD_eq_getElem?_getD, h]; rfl
theorem Fol.deep (h : Fol L l0 t f) : ∀ (j : Nat) (z k : Int), z ∈ t.take j → f z = some k → DeepV L f j k
  | 0, z, k, hz, _ => by simp at hz
  | j + 1, z, k, hz, hk => by
    obtain ⟨j0, i, c, g, rfl, l, u, v, hnz⟩ := h.at hk
    by_cases hzj : z ∈ t.take j
    · exact (Fol.deep h j z _ hzj hk).succ
    · have hj : j0 ≤ j := by
        by_cases hle : j0 ≤ j
        · exact hle
        · exfalso
          refine hnz ?_
          have : t.take (j + 1) = (t.take j0).take (j + 1) := by rw [List.take_take, Nat.min_eq_left (by omega)]
          rw [this] at hz
          exact List.mem_of_mem_take hz
      refine ⟨by omega, by have := (List.getElem?_eq_some_iff.1 l).1; omega, fun x hx k' hk' => ?_⟩
      rw [getD_of l] at hx
      obtain ⟨e1, e2, e3⟩ := h.neg_mem hk'
      have h4 := h.ahead g u v hx e2 e3
      refine Fol.deep h j _ k' ?_ hk'
      rw [e1]
      have : t.take j0 = (t.take j).take j0 := by rw [List.take_take, Nat.min_eq_left hj]
      rw [this] at h4
      exact List.mem_of_mem_take h4
theorem Fol.deep_last (h : Fol L l0 t f) {i : Nat} {c : List Int} (hc : L[i]? = some c) : DeepV L f (t.length + 1) i := by
  refine ⟨by omega, by have := (List.getElem?_eq_some_iff.1 hc).1; omega, fun x _ k hk => ?_⟩
  obtain ⟨e1, _, e3⟩ := h.neg_mem hk
  exact h.deep t.length (negI x) k (by rw [List.take_length, e1]; exact e3) hk

/-- The rows of numbers. -/
def rowsN (L : List (List Int)) (o : List Int) : List (List Int) := o.map fun i => L.getD i.toNat []
/-- These hints lead on, to these literals. -/
def InvO (L : List (List Int)) (l0 t : List Int) (f : Int → Option Int) (o : List Int) : Prop :=
  ∃ d : List Int, (∀ z ∈ d, z ∈ t) ∧ (∀ z ∈ d, ∃ i ∈ o, f z = some i) ∧ (∀ i ∈ o, ∃ z ∈ d, f z = some i) ∧ ∀ hs n, chainV l0 (rowsN L o ++ hs) n = chainV (l0 ++ d) hs (n + o.length)
theorem InvO.nil : InvO L l0 t f [] := ⟨[], by simp, by simp, by simp, fun hs n => by simp [rowsN]⟩

theorem unit_of {l l' c : List Int} {z : Int} (hu : unitB l c = true) (hz : unitU l c = z) (h1 : ∀ x ∈ c, varV x ≠ 0 → x ≠ z → hasV l' x = false ∧ hasV l' (-x) = true) (h2 : hasV l' z = false) (h3 : hasV l' (-z) = false) :
    stepV l' c = (l' ++ [z], false, 0) := by
  obtain ⟨g1, g2, g3, g4, g5⟩ := unit_lits hu
  rw [hz] at g1 g2 g3 g4 g5
  have k1 : cnV l' c 1 = 0 := by
    unfold cnV
    rw [List.countP_eq_zero.2]
    · rfl
    · intro x hx hc
      simp only [Bool.and_eq_true, decide_eq_true_eq] at hc
      have hx1 : hasV l' x = false := by
        by_cases e : x = z
        · rw [e]; exact h2
        · exact (h1 x hx hc.1 e).1
      have := hc.2
      rw [valueV, if_neg hc.1, hx1] at this
      cases h3 : hasV l' (-x) <;> rw [h3] at this <;> cases this
  have hb : cnV l c 0 = 1 := by unfold unitB at hu; simp only [Bool.and_eq_true, decide_eq_true_eq] at hu; exact hu.2
  have hzz : valueV l' z = 0 := by rw [valueV, if_neg g2, h2, h3]; rfl
  have k0 : cnV l' c 0 = 1 := by
    have : (c.countP fun x => decide (varV x ≠ 0) && decide (valueV l' x = 0)) = c.countP fun x => decide (varV x ≠ 0) && decide (valueV l x = 0) := by
      refine List.countP_congr fun x hx => ?_
      simp only [Bool.and_eq_true, decide_eq_true_eq]
      constructor
      · rintro ⟨hv, h0⟩
        obtain ⟨z1, z2⟩ := valueV_zero hv h0
        by_cases e : x = z
        · rw [e]; refine ⟨g2, ?_⟩; rw [valueV, if_neg g2, g3, g4]; rfl
        · rw [(h1 x hx hv e).2] at z2; cases z2
      · rintro ⟨hv, h0⟩
        obtain ⟨z1, z2⟩ := valueV_zero hv h0
        by_cases e : x = z
        · rw [e]; exact ⟨g2, hzz⟩
        · rw [(g5 x hx hv e).2] at z2; cases z2
    unfold cnV at hb ⊢
    rw [this]; exact hb
  have hub : unitB l' c = true := unitB_of k1 k0
  have huu : unitU l' c = z := by
    obtain ⟨q1, q2, q3, q4, _⟩ := unit_lits hub
    by_cases e : unitU l' c = z
    · exact e
    · have := (h1 _ q1 q2 e).2
      rw [q4] at this; cases this
  have hf : failP l' c = false := by
    cases h : failP l' c with
    | false => rfl
    | true =>
      have := (fail_lits h z g1 g2).2
      rw [h3] at this; cases this
  rw [stepV, hf, hub, huu]; rfl

/-- What put comes to. -/
structure PutOk (L : List (List Int)) (l0 t : List Int) (f : Int → Option Int) (a b : List Int × List Int) : Prop where
  inv : InvO L l0 t f b.2
  more : ∀ k ∈ a.2, k ∈ b.2
  seen : ∀ k ∈ a.1, k ∈ b.1
  sub : ∀ k ∈ b.2, k ∈ b.1
  open_ : ∀ k ∈ b.1, k ∈ b.2 ∨ k ∈ a.1
  fresh : ∀ k ∈ b.2, k ∈ a.2 ∨ k ∉ a.1
theorem PutOk.refl {a : List Int × List Int} (h : InvO L l0 t f a.2) (hs : ∀ k ∈ a.2, k ∈ a.1) : PutOk L l0 t f a a := ⟨h, fun _ h => h, fun _ h => h, hs, fun _ h => Or.inr h, fun _ h => Or.inl h⟩
theorem PutOk.trans {a b c : List Int × List Int} (h : PutOk L l0 t f a b) (k : PutOk L l0 t f b c) : PutOk L l0 t f a c :=
  ⟨k.inv, fun x hx => k.more x (h.more x hx), fun x hx => k.seen x (h.seen x hx), k.sub, fun x hx => by
    rcases k.open_ x hx with h1 | h1
    · exact Or.inl h1
    · rcases h.open_ x h1 with h2 | h2
      · exact Or.inl (k.more x h2)
      · exact Or.inr h2, fun x hx => by
    rcases k.fresh x hx with h1 | h1
    · exact h.fresh x h1
    · exact Or.inr (fun h2 => h1 (h.seen x h2))⟩

/-- The fold over a clause's numbers. -/
theorem fold_ok (hF : Fol L l0 t f) (fu j : Nat) (i : Int)
    (ih : ∀ (z k : Int) (a : List Int × List Int), z ∈ t.take j → f z = some k → InvO L l0 t f a.2 → (∀ k ∈ a.2, k ∈ a.1) → (∀ z' ∈ t.take j, ∀ k', f z' = some k' → k' ∈ a.1 → k' ∈ a.2) → PutOk L l0 t f a (putV L f fu k a) ∧ k ∈ (putV L f fu k a).2)
    (hi : ∀ z' ∈ t.take j, f z' ≠ some i) :
    ∀ (cs : List Int) (a : List Int × List Int), (∀ x ∈ cs, ∀ k, f (negI x) = some k → negI x ∈ t.take j) → InvO L l0 t f a.2 → (∀ k ∈ a.2, k ∈ a.1) → (∀ z' ∈ t.take j, ∀ k', f z' = some k' → k' ∈ a.1 → k' ∈ a.2) →
      PutOk L l0 t f a (cs.foldl (litV L f fu) a) ∧ ∀ x ∈ cs, ∀ k, f (negI x) = some k → k ∈ (cs.foldl (litV L f fu) a).2
  | [], a, _, h1, h2, _ => ⟨PutOk.refl h1 h2, by simp⟩
  | x :: cs, a, hc, h1, h2, h3 => by
    rw [List.foldl_cons]
    have hstep : PutOk L l0 t f a (litV L f fu a x) ∧ ∀ k, f (negI x) = some k → k ∈ (litV L f fu a x).2 := by
      unfold litV
      cases e : f (negI x) with
      | none => exact ⟨PutOk.refl h1 h2, fun k hk => by cases hk⟩
      | some k =>
        obtain ⟨q1, q2⟩ := ih (negI x) k a (hc x (List.mem_cons_self ..) k e) e h1 h2 h3
        exact ⟨q1, fun k' hk' => by cases hk'; exact q2⟩
    obtain ⟨p1, p2⟩ := hstep
    have h3' : ∀ z' ∈ t.take j, ∀ k', f z' = some k' → k' ∈ (litV L f fu a x).1 → k' ∈ (litV L f fu a x).2 := fun z' hz' k' hk' hs => by
      rcases p1.open_ k' hs with h4 | h4
      · exact h4
      · exact p1.more k' (h3 z' hz' k' hk' h4)
    obtain ⟨q1, q2⟩ := fold_ok hF fu j i ih hi cs (litV L f fu a x) (fun y hy => hc y (List.mem_cons_of_mem _ hy)) p1.inv p1.sub h3'
    refine ⟨p1.trans q1, fun y hy k hk => ?_⟩
    rcases List.mem_cons.1 hy with e | e
    · subst e; exact q1.more k (p2 k hk)
    · exact q2 y e k hk

end
end Go.Proofs.Ytdhohoabcokdjaa
