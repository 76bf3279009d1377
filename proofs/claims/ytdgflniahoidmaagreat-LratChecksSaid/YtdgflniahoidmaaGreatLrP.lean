/- Layer 11 (lrat), in plain Lean: a checker as its rows; steps; what is accepted is true. -/
import Derived.Test.YtdgflniahoidmaaGreatRatS
import Derived.Test.YtdgflniahoidmaaGreatCnf3
set_option maxRecDepth 100000
namespace Go.Proofs.YtdgflniahoidmaaGreat

/-- A step. -/
structure Stp where
  kind : Int
  id : Int
  lits : List Int
  hints : List Int
/-- A checker: numbers, rising, and their clauses; the last number; was there an empty clause? -/
structure CSt where
  rows : List (Int × List Int)
  last : Int
  done : Bool
def getR (R : List (Int × List Int)) (i : Int) : Option (List Int) := (R.find? fun p => p.1 == i).map (·.2)
def outV (lo n : Int) : Bool := decide (n < lo) || decide (10000000 < n) || decide (n = 0)
def withinV (l : List Int) (lo : Int) : Bool := decide (l.length ≤ 1000) && !l.any (outV lo)
def mayV (s : Stp) : Bool :=
  if s.kind = 1 then decide (1 ≤ s.id) && decide (s.id ≤ 10000000) && decide (cCheckV s.lits 100000 = 0) && withinV s.hints (-10000000)
  else if s.kind = 2 then decide (0 ≤ s.id) && decide (s.id ≤ 10000000) && decide (s.lits.length = 0) && withinV s.hints 1 else false
def thereV (R : List (Int × List Int)) (hints : List Int) : Bool := !hints.any fun h => !(getR R (max h (-h))).isSome
def dropOk (R : List (Int × List Int)) (hints : List Int) : Bool := !(decide ((dedL hints).length < hints.length)) && thereV R hints
def dropR (R : List (Int × List Int)) (hints : List Int) : List (Int × List Int) := R.filter fun p => !hasV hints p.1
/-- One hint more. -/
def split1 (st : List Int × List (List Int)) (h : Int) : List Int × List (List Int) :=
  if h < 0 then (st.1, st.2 ++ [[h]]) else if st.2.length = 0 then (st.1 ++ [h], st.2) else (st.1, st.2.set (st.2.length - 1) (st.2.getD (st.2.length - 1) [] ++ [h]))
def splitV (hints : List Int) : List Int × List (List Int) := hints.foldl split1 ([], [])
theorem splitV_snoc (hints : List Int) (h : Int) : splitV (hints ++ [h]) = split1 (splitV hints) h := by unfold splitV; rw [List.foldl_append]; rfl
def rowsR (R : List (Int × List Int)) (ids : List Int) : List (List Int) := ids.map fun i => (getR R i).getD []
def idsR (R : List (Int × List Int)) : List Int := R.map (·.1)
/-- Where a number stands among numbers that rise. -/
def posV (ids : List Int) (x : Int) : Int := (ids.countP fun y => decide (y < x) : Nat)
def each1 (R : List (Int × List Int)) (F : Int → Option (List (List Int))) (g : List Int) : Int → Option (List (List Int)) :=
  if hasV (idsR R) (-g.headD 0) then fun z => if z = posV (idsR R) (-g.headD 0) then some (rowsR R g.tail) else F z else F
def eachF (R : List (Int × List Int)) (gs : List (List Int)) : Int → Option (List (List Int)) := gs.foldl (each1 R) fun _ => none
def showR (R : List (Int × List Int)) (lits hints : List Int) : Int :=
  let e := showE lits (rowsR R (splitV hints).1)
  if e ≠ 23 ∨ lits.length = 0 then e else
  if (ratShow (rowsR R (idsR R)) lits (rowsR R (splitV hints).1) (eachF R (splitV hints).2)).2 ≠ 0 then 24 else 0
def putR (S : CSt) (i : Int) (l : List Int) : CSt := { rows := S.rows ++ [(i, l)], last := i, done := S.done || decide (l.length = 0) }
def stepE (S : CSt) (s : Stp) : Int :=
  if mayV s = false then 2 else if s.kind = 2 then (if dropOk S.rows s.hints then 0 else 20)
  else if s.id ≤ S.last then 21 else if tautV s.lits then 11 else if thereV S.rows s.hints = false then 20 else showR S.rows s.lits s.hints
def stepS (S : CSt) (s : Stp) : CSt :=
  if stepE S s ≠ 0 then S else if s.kind = 2 then { S with rows := dropR S.rows s.hints } else putR S s.id s.lits
def newS (L : List (List Int)) : CSt := L.foldl (fun S l => putR S (S.last + 1) l) { rows := [], last := 0, done := false }
/-- The steps, one after the other: which one has an error, and which; and the checker. -/
def runS : CSt → List Stp → Nat → Int × Int
  | S, [], i => ((i : Int), if S.done then 0 else 25)
  | S, s :: l, i => if stepE S s ≠ 0 then ((i : Int), stepE S s) else runS (stepS S s) l (i + 1)
def checkL (v : Int) (L : List (List Int)) (l : List Stp) : Int × Int := if (fCheckV v L).2 ≠ 0 then (-1, (fCheckV v L).2) else runS (newS L) l 0

/-! ### What holds -/
def Holds11 (R : List (Int × List Int)) (m : List Bool) : Prop := ∀ p ∈ R, holdsV p.2 m = true
theorem getR_mem {R : List (Int × List Int)} {i : Int} {c : List Int} (h : getR R i = some c) : (i, c) ∈ R := by
  unfold getR at h
  rw [Option.map_eq_some_iff] at h
  obtain ⟨⟨j, d⟩, hp, rfl⟩ := h
  have h1 := List.find?_some hp
  have h2 := List.mem_of_find?_eq_some hp
  simp at h1
  subst h1
  exact h2
/-- Rising numbers. -/
def Rises (R : List (Int × List Int)) : Prop := (idsR R).Pairwise (· < ·)
theorem getR_of {R : List (Int × List Int)} (h : Rises R) : ∀ p ∈ R, getR R p.1 = some p.2 := by
  induction R with
  | nil => intro p hp; cases hp
  | cons q R ih =>
    intro p hp
    have h' : (idsR (q :: R)).Pairwise (· < ·) := h
    rw [idsR, List.map_cons, List.pairwise_cons] at h'
    unfold getR
    rw [List.find?_cons]
    rcases List.mem_cons.1 hp with e | e
    · subst e; simp
    · have hlt := h'.1 p.1 (List.mem_map.2 ⟨p, e, rfl⟩)
      have hne : (q.1 == p.1) = false := by rw [beq_eq_false_iff_ne]; omega
      rw [hne]
      exact ih h'.2 p e
theorem rows_all {R : List (Int × List Int)} (h : Rises R) : rowsR R (idsR R) = R.map (·.2) := by
  unfold rowsR idsR
  rw [List.map_map]
  apply List.map_congr_left
  intro p hp
  show (getR R p.1).getD [] = p.2
  rw [getR_of h p hp]; rfl
theorem there_get {R : List (Int × List Int)} {hints : List Int} (h : thereV R hints = true) : ∀ x ∈ hints, 0 ≤ x → ∃ c, getR R x = some c := by
  intro x hx h0
  unfold thereV at h
  rw [Bool.not_eq_true', List.any_eq_false] at h
  have := h x hx
  rw [show max x (-x) = x by omega] at this
  cases e : getR R x with
  | none => rw [e] at this; simp at this
  | some c => exact ⟨c, rfl⟩
/-- All that stands in the parts are hints; but for each group's first one none is negative. -/
theorem split_parts (hints : List Int) : (∀ x ∈ (splitV hints).1, x ∈ hints ∧ 0 ≤ x) ∧ ∀ g ∈ (splitV hints).2, ∃ y t, g = y :: t ∧ y < 0 ∧ y ∈ hints ∧ ∀ x ∈ t, x ∈ hints ∧ 0 ≤ x := by
  refine foldl_snoc_ind (P := fun hints => (∀ x ∈ (splitV hints).1, x ∈ hints ∧ 0 ≤ x) ∧ ∀ g ∈ (splitV hints).2, ∃ y t, g = y :: t ∧ y < 0 ∧ y ∈ hints ∧ ∀ x ∈ t, x ∈ hints ∧ 0 ≤ x) ⟨by simp [splitV], by simp [splitV]⟩ ?_ hints
  intro xs h ⟨i1, i2⟩
  have up1 : ∀ x ∈ (splitV xs).1, x ∈ xs ++ [h] ∧ 0 ≤ x := fun x hx => ⟨List.mem_append_left _ (i1 x hx).1, (i1 x hx).2⟩
  have up2 : ∀ g ∈ (splitV xs).2, ∃ y t, g = y :: t ∧ y < 0 ∧ y ∈ xs ++ [h] ∧ ∀ x ∈ t, x ∈ xs ++ [h] ∧ 0 ≤ x := fun g hg => by
    obtain ⟨y, t, e, h1, h2, h3⟩ := i2 g hg
    exact ⟨y, t, e, h1, List.mem_append_left _ h2, fun x hx => ⟨List.mem_append_left _ (h3 x hx).1, (h3 x hx).2⟩⟩
  rw [splitV_snoc]
  unfold split1
  by_cases hn : h < 0
  · rw [if_pos hn]
    refine ⟨up1, fun g hg => ?_⟩
    rcases List.mem_append.1 hg with hg | hg
    · exact up2 g hg
    · simp at hg; subst hg; exact ⟨h, [], rfl, hn, by simp, fun x hx => by cases hx⟩
  · rw [if_neg hn]
    by_cases hz : (splitV xs).2.length = 0
    · rw [if_pos hz]
      refine ⟨fun x hx => ?_, up2⟩
      rcases List.mem_append.1 hx with hx | hx
      · exact up1 x hx
      · simp at hx; subst hx; exact ⟨by simp, by omega⟩
    · rw [if_neg hz]
      refine ⟨up1, fun g hg => ?_⟩
      rcases List.mem_or_eq_of_mem_set hg with hg | rfl
      · exact up2 g hg
      · have hk : (splitV xs).2.length - 1 < (splitV xs).2.length := by omega
        have hgd : (splitV xs).2.getD ((splitV xs).2.length - 1) [] = (splitV xs).2[(splitV xs).2.length - 1] := by rw [List.getD_eq_getElem?_getD, List.getElem?_eq_getElem hk]; rfl
        obtain ⟨y, t, e, h1, h2, h3⟩ := up2 _ (List.getElem_mem hk)
        rw [hgd, e]
        refine ⟨y, t ++ [h], rfl, h1, h2, fun x hx => ?_⟩
        rcases List.mem_append.1 hx with hx | hx
        · exact h3 x hx
        · simp at hx; subst hx; exact ⟨by simp, by omega⟩
theorem rowsR_mem {R : List (Int × List Int)} {ids : List Int} (h : ∀ x ∈ ids, ∃ c, getR R x = some c) : ∀ d ∈ rowsR R ids, d ∈ R.map (·.2) := by
  intro d hd
  obtain ⟨x, hx, rfl⟩ := List.mem_map.1 hd
  obtain ⟨c, hc⟩ := h x hx
  rw [hc]
  exact List.mem_map.2 ⟨_, getR_mem hc, rfl⟩
theorem eachF_mem {R : List (Int × List Int)} (gs : List (List Int)) (h : ∀ g ∈ gs, ∀ x ∈ g.tail, ∃ c, getR R x = some c) : ∀ i L, eachF R gs i = some L → ∀ d ∈ L, d ∈ R.map (·.2) := by
  unfold eachF
  have key : ∀ (gs : List (List Int)) (F : Int → Option (List (List Int))), (∀ g ∈ gs, ∀ x ∈ g.tail, ∃ c, getR R x = some c) → (∀ i L, F i = some L → ∀ d ∈ L, d ∈ R.map (·.2)) → ∀ i L, gs.foldl (each1 R) F i = some L → ∀ d ∈ L, d ∈ R.map (·.2) := by
    intro gs
    induction gs with
    | nil => intro F _ hF; exact hF
    | cons g gs ih =>
      intro F hg hF
      rw [List.foldl_cons]
      refine ih _ (fun g' hg' => hg g' (List.mem_cons_of_mem _ hg')) ?_
      intro i L
      unfold each1
      split
      · intro hi
        by_cases e : i = posV (idsR R) (-g.headD 0)
        · dsimp only at hi
          rw [if_pos e] at hi
          cases hi
          exact rowsR_mem (hg g (List.mem_cons_self ..))
        · dsimp only at hi
          rw [if_neg e] at hi
          exact hF i L hi
      · exact hF i L
  exact key gs _ h (fun i L e => by cases e)
theorem show_holds {R : List (Int × List Int)} {lits hints : List Int} {m : List Bool} (hr : Rises R) (ht : thereV R hints = true) (hs : showR R lits hints = 0) (hm : Holds11 R m) (hv : ∀ x ∈ lits, varV x ≠ 0 ∧ varV x ≤ (m.length : Int)) :
    (holdsV lits m = true) ∨ (lits ≠ [] ∧ ∃ m', m'.length = m.length ∧ Holds11 R m' ∧ holdsV lits m' = true) := by
  obtain ⟨p1, p2⟩ := split_parts hints
  have hL : ∀ d ∈ R.map (·.2), holdsV d m = true := fun d hd => by obtain ⟨p, hp, rfl⟩ := List.mem_map.1 hd; exact hm p hp
  have hah := rowsR_mem (R := R) (ids := (splitV hints).1) (fun x hx => there_get ht x (p1 x hx).1 (p1 x hx).2)
  have hF := eachF_mem (R := R) (splitV hints).2 (fun g hg x hx => by
    obtain ⟨y, t, rfl, _, _, h3⟩ := p2 g hg
    exact there_get ht x (h3 x hx).1 (h3 x hx).2)
  unfold showR at hs
  by_cases h1 : showE lits (rowsR R (splitV hints).1) ≠ 23 ∨ lits.length = 0
  · simp only [h1, if_true] at hs
    exact .inl (show_sound hs (fun d hd => hL d (hah d (List.mem_of_mem_take hd))))
  · simp only [h1, if_false] at hs
    by_cases h2 : (ratShow (rowsR R (idsR R)) lits (rowsR R (splitV hints).1) (eachF R (splitV hints).2)).2 ≠ 0
    · rw [if_pos h2] at hs; exact absurd hs (by decide)
    · rw [rows_all hr] at h2
      rcases rat_plain (by omega) hL hv hah hF with h | ⟨hne, h⟩
      · exact .inl h
      · refine .inr ⟨hne, flipV m [lits.headD 0], flipV_len _ _, fun p hp => h _ (List.mem_append_left _ (List.mem_map.2 ⟨p, hp, rfl⟩)), h _ (List.mem_append_right _ (by simp))⟩
/-- What holds of a checker: its numbers rise up to the last one; its clauses may be. -/
structure Inv11 (S : CSt) : Prop where
  rise : Rises S.rows
  low : 0 ≤ S.last ∧ S.last ≤ 10000000
  ids : ∀ p ∈ S.rows, 1 ≤ p.1 ∧ p.1 ≤ S.last
  wide : ∀ p ∈ S.rows, p.2.length ≤ 1000 ∧ ∀ x ∈ p.2, -100000 ≤ x ∧ x ≤ 100000
theorem rises_snoc {R : List (Int × List Int)} {i : Int} {l : List Int} {n : Int} (h : Rises R) (hi : ∀ p ∈ R, p.1 ≤ n) (hn : n < i) : Rises (R ++ [(i, l)]) := by
  unfold Rises idsR at *
  rw [List.map_append, List.pairwise_append]
  refine ⟨h, by simp, fun a ha b hb => ?_⟩
  obtain ⟨p, hp, rfl⟩ := List.mem_map.1 ha
  simp at hb
  subst hb
  have := hi p hp
  omega
theorem Inv11.put {S : CSt} (h : Inv11 S) {i : Int} {l : List Int} (hi : S.last < i) (hi2 : i ≤ 10000000) (hl : l.length ≤ 1000) (hb : ∀ x ∈ l, -100000 ≤ x ∧ x ≤ 100000) : Inv11 (putR S i l) := by
  have h1 := h.low
  refine ⟨rises_snoc h.rise (fun p hp => (h.ids p hp).2) hi, ⟨by show 0 ≤ i; omega, hi2⟩, fun p hp => ?_, fun p hp => ?_⟩
  · rcases List.mem_append.1 hp with hp | hp
    · have := h.ids p hp
      exact ⟨this.1, by show p.1 ≤ i; omega⟩
    · simp at hp; subst hp; exact ⟨by show 1 ≤ i; omega, Int.le_refl _⟩
  · rcases List.mem_append.1 hp with hp | hp
    · exact h.wide p hp
    · simp at hp; subst hp; exact ⟨hl, hb⟩
theorem Inv11.drop {S : CSt} (h : Inv11 S) (hs : List Int) : Inv11 { S with rows := dropR S.rows hs } := by
  refine ⟨?_, h.low, fun p hp => h.ids p (List.mem_filter.1 hp).1, fun p hp => h.wide p (List.mem_filter.1 hp).1⟩
  unfold Rises idsR dropR
  exact (List.Pairwise.sublist (List.Sublist.map _ List.filter_sublist) h.rise)
theorem ccheck_lits {l : List Int} {v : Int} (hv : v ≤ 100000) (h : cCheckV l v = 0) : l.length ≤ 1000 ∧ ∀ x ∈ l, (-100000 ≤ x ∧ x ≤ 100000) ∧ varV x ≠ 0 ∧ varV x ≤ v := by
  obtain ⟨h1, h2, h3⟩ := cCheckV_ok h
  refine ⟨h2, fun x hx => ?_⟩
  have hc := h3 x hx
  have e : x ≠ 0 ∧ -v ≤ x ∧ x ≤ v := by unfold checkV at hc; (repeat' split at hc) <;> simp_all
  refine ⟨by omega, ?_, ?_⟩ <;> unfold varV <;> (repeat (first | omega | split))
theorem may_add {s : Stp} (h : mayV s = true) (hk : s.kind = 1) : 1 ≤ s.id ∧ s.id ≤ 10000000 ∧ cCheckV s.lits 100000 = 0 ∧ withinV s.hints (-10000000) = true := by
  unfold mayV at h
  rw [if_pos hk] at h
  simp only [Bool.and_eq_true, decide_eq_true_eq] at h
  exact ⟨h.1.1.1, h.1.1.2, h.1.2, h.2⟩
theorem may_kind {s : Stp} (h : mayV s = true) (hk : s.kind ≠ 2) : s.kind = 1 := by
  unfold mayV at h
  by_cases h1 : s.kind = 1
  · exact h1
  · rw [if_neg h1, if_neg hk] at h; cases h
theorem stepE_add {S : CSt} {s : Stp} (h : stepE S s = 0) (hk : s.kind ≠ 2) : mayV s = true ∧ S.last < s.id ∧ thereV S.rows s.hints = true ∧ showR S.rows s.lits s.hints = 0 := by
  unfold stepE at h
  cases hm : mayV s with
  | false => rw [hm, if_pos rfl] at h; exact absurd h (by decide)
  | true =>
    rw [hm, if_neg (by simp), if_neg hk] at h
    by_cases h1 : s.id ≤ S.last
    · rw [if_pos h1] at h; exact absurd h (by decide)
    · rw [if_neg h1] at h
      cases ht : tautV s.lits with
      | true => rw [ht, if_pos rfl] at h; exact absurd h (by decide)
      | false =>
        rw [ht, if_neg (by simp)] at h
        cases hth : thereV S.rows s.hints with
        | false => rw [hth, if_pos rfl] at h; exact absurd h (by decide)
        | true => rw [hth, if_neg (by simp)] at h; exact ⟨rfl, by omega, rfl, h⟩
theorem Inv11.step {S : CSt} (h : Inv11 S) (s : Stp) : Inv11 (stepS S s) := by
  unfold stepS
  by_cases he : stepE S s = 0
  · rw [if_neg (by simpa using he)]
    by_cases hk : s.kind = 2
    · rw [if_pos hk]; exact h.drop _
    · rw [if_neg hk]
      obtain ⟨hm, hl, _, _⟩ := stepE_add he hk
      obtain ⟨_, h2, h3, _⟩ := may_add hm (may_kind hm hk)
      obtain ⟨h4, h5⟩ := ccheck_lits (by decide) h3
      exact h.put hl h2 h4 (fun x hx => (h5 x hx).1)
  · rw [if_pos (by simpa using he)]; exact h
/-- Some truths with which all clauses hold. -/
def Sat11 (R : List (Int × List Int)) : Prop := ∃ m : List Bool, m.length = 100000 ∧ Holds11 R m
theorem sat_step {S : CSt} (h : Inv11 S) (s : Stp) (he : stepE S s = 0) (hs : Sat11 S.rows) (hd : S.done = false) : Sat11 (stepS S s).rows ∧ (stepS S s).done = false := by
  unfold stepS
  rw [if_neg (by simpa using he)]
  by_cases hk : s.kind = 2
  · rw [if_pos hk]
    obtain ⟨m, hm, hh⟩ := hs
    exact ⟨⟨m, hm, fun p hp => hh p (List.mem_filter.1 hp).1⟩, hd⟩
  · rw [if_neg hk]
    obtain ⟨hm, _, ht, hsh⟩ := stepE_add he hk
    obtain ⟨_, _, h3, _⟩ := may_add hm (may_kind hm hk)
    obtain ⟨_, h5⟩ := ccheck_lits (by decide) h3
    obtain ⟨m, hml, hh⟩ := hs
    have hlits : ∀ x ∈ s.lits, varV x ≠ 0 ∧ varV x ≤ (m.length : Int) := fun x hx => ⟨(h5 x hx).2.1, by rw [hml]; exact (h5 x hx).2.2⟩
    have key : ∃ m', m'.length = 100000 ∧ Holds11 S.rows m' ∧ holdsV s.lits m' = true := by
      rcases show_holds h.rise ht hsh hh hlits with h | ⟨_, m', h1, h2, h3⟩
      · exact ⟨m, hml, hh, h⟩
      · exact ⟨m', h1.trans hml, h2, h3⟩
    obtain ⟨m', h1, h2, h3⟩ := key
    refine ⟨⟨m', h1, fun p hp => ?_⟩, ?_⟩
    · rcases List.mem_append.1 hp with hp | hp
      · exact h2 p hp
      · simp at hp; subst hp; exact h3
    · show (S.done || decide (s.lits.length = 0)) = false
      rw [hd, Bool.false_or, decide_eq_false_iff_not]
      intro e
      rw [List.eq_nil_of_length_eq_zero e] at h3
      cases h3
theorem run_sat : ∀ (l : List Stp) (S : CSt) (i : Nat), Inv11 S → Sat11 S.rows → S.done = false → (runS S l i).2 ≠ 0
  | [], S, i, _, _, hd => by show (if S.done then (0 : Int) else 25) ≠ 0; rw [hd]; decide
  | s :: l, S, i, h, hs, hd => by
    unfold runS
    by_cases he : stepE S s = 0
    · rw [if_neg (by simpa using he)]
      obtain ⟨h1, h2⟩ := sat_step h s he hs hd
      exact run_sat l _ _ (h.step s) h1 h2
    · rw [if_pos (by simpa using he)]; exact he

/-! ### A checker of a formula -/
theorem newS_snoc (L : List (List Int)) (c : List Int) : newS (L ++ [c]) = putR (newS L) ((newS L).last + 1) c := by unfold newS; rw [List.foldl_append]; rfl
theorem snoc_ind11 {P : List (List Int) → Prop} (h0 : P []) (hs : ∀ L c, P L → P (L ++ [c])) (L : List (List Int)) : P L := by
  have : ∀ n, ∀ L : List (List Int), L.length = n → P L := by
    intro n
    induction n with
    | zero => intro L h; rw [List.eq_nil_of_length_eq_zero h]; exact h0
    | succ n ih =>
      intro L h
      have hne : L ≠ [] := fun e => by rw [e] at h; simp at h
      rw [← List.dropLast_concat_getLast hne]
      exact hs _ _ (ih _ (by rw [List.length_dropLast]; omega))
  exact this _ L rfl
theorem newS_last (L : List (List Int)) : (newS L).last = (L.length : Int) := by
  refine snoc_ind11 (P := fun L => (newS L).last = (L.length : Int)) rfl (fun L c ih => ?_) L
  rw [newS_snoc]
  show (newS L).last + 1 = _
  rw [ih, List.length_append]; simp
theorem newS_rows (L : List (List Int)) : (newS L).rows.map (fun p : Int × List Int => p.2) = L := by
  refine snoc_ind11 (P := fun L : List (List Int) => (newS L).rows.map (fun p : Int × List Int => p.2) = L) rfl (fun L c ih => ?_) L
  rw [newS_snoc]
  show ((newS L).rows ++ [((newS L).last + 1, c)]).map (fun p : Int × List Int => p.2) = _
  rw [List.map_append, ih]; rfl
theorem newS_done (L : List (List Int)) : (newS L).done = L.any fun c => decide (c.length = 0) := by
  refine snoc_ind11 (P := fun L => (newS L).done = L.any fun c => decide (c.length = 0)) rfl (fun L c ih => ?_) L
  rw [newS_snoc, List.any_append, ← ih]
  show ((newS L).done || decide (c.length = 0)) = _
  simp
theorem newS_inv {v : Int} {L : List (List Int)} (h : (fCheckV v L).2 = 0) (hn : L.length ≤ 1000000) : Inv11 (newS L) := by
  obtain ⟨hv, hc⟩ := fCheckV_ok h
  have key : ∀ c ∈ L, c.length ≤ 1000 ∧ ∀ x ∈ c, -100000 ≤ x ∧ x ≤ 100000 := fun c hm => by
    obtain ⟨h1, h2⟩ := ccheck_lits hv.2 (hc c hm).1
    exact ⟨h1, fun x hx => (h2 x hx).1⟩
  clear hc
  revert hn key
  refine snoc_ind11 (P := fun L => L.length ≤ 1000000 → (∀ c ∈ L, c.length ≤ 1000 ∧ ∀ x ∈ c, -100000 ≤ x ∧ x ≤ 100000) → Inv11 (newS L)) ?_ ?_ L
  · exact fun _ _ => ⟨List.Pairwise.nil, by decide, fun p hp => (by cases hp), fun p hp => (by cases hp)⟩
  · intro L c ih hn hc
    have hlast := newS_last L
    rw [List.length_append] at hn
    simp at hn
    obtain ⟨h1, h2⟩ := hc c (by simp)
    rw [newS_snoc]
    exact (ih (by omega) (fun d hd => hc d (List.mem_append_left _ hd))).put (by omega) (by omega) h1 h2
theorem lit_pad (m : List Bool) (k : Nat) (x : Int) : litHolds (m ++ List.replicate k false) x = litHolds m x := by
  unfold litHolds
  by_cases h0 : varV x = 0
  · rw [h0]; rfl
  · have hb := varV_bd x
    congr 2
    unfold truthV
    by_cases h1 : varV x ≤ (m.length : Int)
    · rw [decide_eq_true h1, decide_eq_true (by rw [List.length_append]; omega), List.getD_eq_getElem?_getD, List.getElem?_append_left (by omega), ← List.getD_eq_getElem?_getD]
    · rw [decide_eq_false h1, Bool.false_and]
      have : (m ++ List.replicate k false).getD (varV x - 1).toNat false = false := by
        rw [List.getD_eq_getElem?_getD, List.getElem?_append_right (by omega), List.getElem?_replicate]
        split <;> rfl
      rw [this, Bool.and_false]
theorem holds_pad (c : List Int) (m : List Bool) (k : Nat) : holdsV c (m ++ List.replicate k false) = holdsV c m := by
  unfold holdsV
  congr 1
  exact funext fun x => lit_pad m k x
theorem newS_sat {L : List (List Int)} {m : List Bool} (hm : m.length ≤ 100000) (h : firstV L m < 0) : Sat11 (newS L).rows ∧ (newS L).done = false := by
  rw [firstV_neg] at h
  refine ⟨⟨m ++ List.replicate (100000 - m.length) false, by rw [List.length_append, List.length_replicate]; omega, fun p hp => ?_⟩, ?_⟩
  · rw [holds_pad]
    refine h _ ?_
    have := newS_rows L
    rw [← this]
    exact List.mem_map.2 ⟨p, hp, rfl⟩
  · rw [newS_done, List.any_eq_false]
    intro c hc
    have := h c hc
    simp
    rintro rfl
    cases this
theorem lrat_sound {v : Int} {L : List (List Int)} {l : List Stp} {m : List Bool} (hn : L.length ≤ 1000000) (hm : m.length ≤ 100000) (h : firstV L m < 0) : (checkL v L l).2 ≠ 0 := by
  unfold checkL
  by_cases hf : (fCheckV v L).2 = 0
  · rw [if_neg (by simpa using hf)]
    obtain ⟨h1, h2⟩ := newS_sat hm h
    exact run_sat l _ 0 (newS_inv hf hn) h1 h2
  · rw [if_pos (by simpa using hf)]; exact hf
end Go.Proofs.YtdgflniahoidmaaGreat
