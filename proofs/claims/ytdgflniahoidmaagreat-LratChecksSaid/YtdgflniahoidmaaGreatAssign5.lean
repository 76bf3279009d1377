/- Layer 3 (assign): are literals an assignment? -/
import Derived.Test.YtdgflniahoidmaaGreatAssign1
import Derived.BigQuiet
import Derived.Test.YtdgflniahoidmaaGreatApp
import Derived.Test.YtdgflniahoidmaaGreatLit
import Derived.Test.YtdgflniahoidmaaGreatSl
set_option maxRecDepth 100000
namespace Go.Proofs.YtdgflniahoidmaaGreat
open Go.RowKit Go.Maps

/-- Is a number there that is no literal of v variables? -/
def badL (l : List Int) (v : Int) : Bool := l.any fun x => decide (checkV x v ≠ 0)
theorem badL_snoc {l : List Int} {x v : Int} (h : badL l v = false) (hx : checkV x v = 0) : badL (l ++ [x]) v = false := by
  unfold badL at h ⊢; rw [List.any_append, h]; simp [hx]
theorem badL_hit {l : List Int} {k : Nat} {x v : Int} (h : l[k]? = some x) (hx : checkV x v ≠ 0) : badL l v = true := by
  rw [badL, List.any_eq_true]; exact ⟨x, List.mem_iff_getElem?.2 ⟨k, h⟩, by simpa using hx⟩
/-- Are literals an assignment? -/
def assignV (l : List Int) (v : Int) : Int := if v < 0 ∨ 100000 < v then 2 else if badL l v then 10 else if (l.map varV).Nodup then 0 else 21
theorem assignV_arg {l : List Int} {v : Int} (h : v < 0 ∨ 100000 < v) : assignV l v = 2 := by rw [assignV, if_pos h]
theorem assignV_lit {l : List Int} {v : Int} (h : ¬ (v < 0 ∨ 100000 < v)) (hb : badL l v = true) : assignV l v = 10 := by rw [assignV, if_neg h, if_pos hb]
theorem assignV_ok {l : List Int} {v : Int} (h : ¬ (v < 0 ∨ 100000 < v)) (hb : badL l v = false) (hn : (l.map varV).Nodup) : assignV l v = 0 := by rw [assignV, if_neg h, if_neg (by simp [hb]), if_pos hn]
theorem assignV_dup {l : List Int} {v : Int} (h : ¬ (v < 0 ∨ 100000 < v)) (hb : badL l v = false) (hn : ¬ (l.map varV).Nodup) : assignV l v = 21 := by rw [assignV, if_neg h, if_neg (by simp [hb]), if_neg hn]
theorem checkV_ok {x v : Int} (h : checkV x v = 0) : x ≠ 0 ∧ -100000 ≤ x ∧ x ≤ 100000 ∧ varV x ≠ 0 ∧ (varV x = x ∨ varV x = -x) := by
  revert h; unfold checkV varV; (repeat (first | omega | split))
theorem varV_abs {x y : Int} (hx : varV x ≠ 0) : varV y = varV x ↔ (y = x ∨ y = -x) := by
  revert hx; unfold varV; (repeat (first | omega | split))
theorem nodup_snoc {xs : List Int} {y : Int} : (xs ++ [y]).Nodup ↔ xs.Nodup ∧ y ∉ xs := by
  rw [List.nodup_append]; simp
  intro _; constructor
  · intro h hy; exact h y hy rfl
  · intro h a ha e; exact h (e ▸ ha)
theorem dup_count {xs : List Int} {y m : Int} (h : m ≤ 1 ↔ xs.Nodup) : max m (cntV (xs ++ [y]) y) ≤ 1 ↔ (xs ++ [y]).Nodup := by
  rw [nodup_snoc, ← h]
  have e : cntV (xs ++ [y]) y = cntV xs y + 1 := by unfold cntV; simp [List.count_append]
  have hb := (cntV_bd xs y).1
  have hm : cntV xs y = 0 ↔ y ∉ xs := by unfold cntV; rw [← List.count_eq_zero]; omega
  rw [e, ← hm]
  omega


end Go.Proofs.YtdgflniahoidmaaGreat

/- Layer 3 (assign): the reference's Check. -/
namespace Go.Proofs.YtdgflniahoidmaaGreat
open Go.RowKit Go.Maps

theorem IntSl.take {w : World} {A : Option Addr} {n : Nat} {xs : List Int} (h : IntSl w A n xs) {k : Nat} (hk : k ≤ n) : IntSl w A k (xs.take k) := by
  refine ⟨by rw [List.length_take, h.1]; omega, by have := h.2.1; omega, fun x hx => h.2.2.1 x (List.mem_of_mem_take hx), fun hn => ?_⟩
  obtain ⟨ad, e, hc⟩ := h.2.2.2 (by omega)
  refine ⟨ad, e, fun j x hj => ?_⟩
  rw [List.getElem?_take] at hj
  split at hj
  · exact hc j x hj
  · cases hj

theorem hasV_mem {xs : List Int} {x : Int} : hasV xs x = true ↔ x ∈ xs := by
  rw [hasV, List.any_eq_true]; constructor
  · rintro ⟨y, hy, e⟩; obtain rfl : y = x := by simpa using e
    exact hy
  · intro h; exact ⟨x, h, by simp⟩
theorem mem_vars {xs : List Int} {x v : Int} (h : checkV x v = 0) : varV x ∈ xs.map varV ↔ hasV xs x = true ∨ hasV xs (-x) = true := by
  have hx := (checkV_ok h).2.2.2.1
  rw [hasV_mem, hasV_mem, List.mem_map]
  constructor
  · rintro ⟨y, hy, e⟩
    rcases (varV_abs hx).1 e with rfl | rfl
    · exact Or.inl hy
    · exact Or.inr hy
  · rintro (hy | hy)
    · exact ⟨x, hy, rfl⟩
    · exact ⟨-x, hy, (varV_abs hx).2 (Or.inr rfl)⟩
theorem nodup_take {xs : List Int} {k : Nat} (h : ¬ (xs.take k).Nodup) : ¬ xs.Nodup := fun e => h ((List.take_sublist k xs).nodup e)


end Go.Proofs.YtdgflniahoidmaaGreat

/- Layer 3 (assign): truths of literals, literals of truths; is all assigned? -/
namespace Go.Proofs.YtdgflniahoidmaaGreat
open Go.RowKit Go.Maps

/-- A row, the first k of it laid. -/
def fillG (f : Nat → Value) (z : Value) (n k : Nat) : Array Value := (Array.range n).map fun i => if i < k then f i else z
theorem fillG_zero (f : Nat → Value) (z : Value) (n : Nat) : fillG f z n 0 = madeCells #[z] n := by
  simp [fillG, madeCells, Nat.mod_one]
theorem fillG_at (f : Nat → Value) (z : Value) (n k j : Nat) (h : j < n) : (fillG f z n k)[j]? = some (if j < k then f j else z) := by
  simp [fillG, h]
theorem fillG_set (f : Nat → Value) (z : Value) (n k : Nat) (h : k < n) : (fillG f z n k).setIfInBounds k (f k) = fillG f z n (k + 1) := by
  apply Array.ext_getElem?
  intro j
  by_cases hj : j < n
  · rw [fillG_at f z n (k + 1) j hj, Array.getElem?_setIfInBounds]
    by_cases hk : k = j
    · subst hk; simp [fillG, h]
    · rw [if_neg hk, fillG_at f z n k j hj]
      by_cases h1 : j < k <;> by_cases h2 : j < k + 1 <;> simp [h1, h2] <;> omega
  · simp [fillG, hj]
theorem infoBool : (Tryz.prog.info? 4).map (fun i => (i.zero, i.size, i.bytes)) = some (some (.bool false), 1, 1) := by kernel_rfl
theorem infoInt : (Tryz.prog.info? 3).map (fun i => (i.zero, i.size, i.bytes)) = some (some (.int .i64 0), 1, 8) := by kernel_rfl

/-- The truths that literals tell, of the first m variables. -/
def modelT (l : List Int) (m : Nat) : List Bool := (List.range m).map fun (i : Nat) => valueV l ((i : Int) + 1) == 1
def modelV (l : List Int) (v : Int) : List Bool := if v < 0 ∨ 100000 < v then [] else modelT l v.toNat
theorem modelT_len (l : List Int) (m : Nat) : (modelT l m).length = m := by simp [modelT]
theorem modelT_succ (l : List Int) (k : Nat) : modelT l (k + 1) = modelT l k ++ [valueV l ((k : Int) + 1) == 1] := by simp [modelT, List.range_succ]
theorem varV_place {k : Nat} (h : k < 100000) : varV ((k : Int) + 1) ≠ 0 := by unfold varV; (repeat (first | omega | split))

/-- The literals of the first k truths. -/
def litsT (m : List Bool) (k : Nat) : List Int := (List.range k).map fun (i : Nat) => makeV ((i : Int) + 1) (m.getD i false)
def litsV (m : List Bool) : List Int := if 100000 < m.length then [] else litsT m m.length
theorem litsT_len (m : List Bool) (k : Nat) : (litsT m k).length = k := by simp [litsT]
theorem litsT_succ (m : List Bool) (k : Nat) : litsT m (k + 1) = litsT m k ++ [makeV ((k : Int) + 1) (m.getD k false)] := by simp [litsT, List.range_succ]
theorem makeV_bd (x : Int) (t : Bool) : -100000 ≤ makeV x t ∧ makeV x t ≤ 100000 := by unfold makeV; (repeat (first | omega | split))
theorem litsT_bd (m : List Bool) (k : Nat) : ∀ x ∈ litsT m k, -9223372036854775808 ≤ x ∧ x ≤ 9223372036854775807 := by
  intro x hx
  obtain ⟨j, _, rfl⟩ := List.mem_map.1 hx
  have := makeV_bd ((j : Int) + 1) (m.getD j false)
  omega

/-- Is all assigned? -/
def fullV (l : List Int) (v : Int) : Bool := (assignV l v == 0) && ((l.length : Int) == v)


end Go.Proofs.YtdgflniahoidmaaGreat

/- replevinref02.Holds: does a clause hold with truths? -/
namespace Go.Proofs.YtdgflniahoidmaaGreat
open Go.RowKit

/-- What truths say of a variable. -/
def truthV (m : List Bool) (v : Int) : Bool := decide (v ≤ (m.length : Int)) && m.getD (v - 1).toNat false
/-- Does a literal hold? -/
def litHolds (m : List Bool) (x : Int) : Bool := decide (varV x ≠ 0) && (truthV m (varV x) == sideV x)
def holdsV (c : List Int) (m : List Bool) : Bool := c.any (litHolds m)
theorem holdsV_snoc {c : List Int} {m : List Bool} {x : Int} (h : holdsV c m = false) (hx : litHolds m x = false) : holdsV (c ++ [x]) m = false := by
  unfold holdsV at h ⊢; rw [List.any_append, h]; simp [hx]
theorem holdsV_hit {c : List Int} {m : List Bool} {x : Int} {k : Nat} (h : c[k]? = some x) (hx : litHolds m x = true) : holdsV c m = true := by
  rw [holdsV, List.any_eq_true]; exact ⟨x, List.mem_iff_getElem?.2 ⟨k, h⟩, hx⟩


end Go.Proofs.YtdgflniahoidmaaGreat

/- Plain laws of layer 3: the literals of truths are a full assignment that tells them; a clause's value in it. -/
namespace Go.Proofs.YtdgflniahoidmaaGreat

theorem mem_litsT {m : List Bool} {n : Nat} {x : Int} : x ∈ litsT m n ↔ ∃ i : Nat, i < n ∧ makeV ((i : Int) + 1) (m.getD i false) = x := by
  simp [litsT]
theorem makeV_in {i : Nat} {t : Bool} (h : i < 100000) : makeV ((i : Int) + 1) t = if t then (i : Int) + 1 else -((i : Int) + 1) := by
  rw [makeV, if_neg (by omega)]
theorem varV_makeV {i : Nat} {t : Bool} (h : i < 100000) : varV (makeV ((i : Int) + 1) t) = (i : Int) + 1 := by
  rw [makeV_in h]; unfold varV; cases t <;> simp <;> (repeat (first | omega | split))
theorem hasV_litsT {m : List Bool} {n i : Nat} (hn : n ≤ 100000) (hi : i < n) (t : Bool) :
    hasV (litsT m n) (if t then (i : Int) + 1 else -((i : Int) + 1)) = (m.getD i false == t) := by
  rw [Bool.eq_iff_iff, hasV_mem, mem_litsT, beq_iff_eq]
  constructor
  · rintro ⟨j, hj, e⟩
    rw [makeV_in (by omega)] at e
    generalize hg : m.getD j false = y at e
    cases y <;> cases t <;> simp at e
    · obtain rfl : j = i := by omega
      exact hg
    · omega
    · omega
    · obtain rfl : j = i := by omega
      exact hg
  · intro e
    exact ⟨i, hi, by rw [makeV_in (by omega), e]⟩
theorem valueV_litsT {m : List Bool} {n i : Nat} (hn : n ≤ 100000) (hi : i < n) (t : Bool) {x : Int} (hx : x = if t then (i : Int) + 1 else -((i : Int) + 1)) :
    valueV (litsT m n) x = if m.getD i false == t then 1 else -1 := by
  have hv : varV x ≠ 0 := by subst hx; cases t <;> simp [varV] <;> (repeat (first | omega | split))
  have h1 := hasV_litsT (m := m) hn hi t
  have h2 := hasV_litsT (m := m) hn hi (!t)
  rw [← hx] at h1
  have hx2 : (if (!t) = true then (i : Int) + 1 else -((i : Int) + 1)) = -x := by subst hx; cases t <;> simp
  rw [hx2] at h2
  rw [valueV, if_neg hv, h1, h2]
  cases m.getD i false <;> cases t <;> simp
theorem fullV_lits {m : List Bool} {n : Nat} (hm : m.length = n) (hn : n ≤ 100000) : fullV (litsV m) n = true := by
  have hl : litsV m = litsT m n := by rw [litsV, if_neg (by omega), hm]
  rw [hl, fullV, litsT_len]
  have hb : badL (litsT m n) n = false := by
    rw [badL, List.any_eq_false]
    intro x hx
    obtain ⟨i, hi, rfl⟩ := mem_litsT.1 hx
    rw [makeV_in (by omega)]
    simp only [decide_eq_true_eq, ne_eq, Decidable.not_not]
    unfold checkV
    cases m.getD i false <;> simp <;> (repeat (first | omega | split))
  have hnd : ((litsT m n).map varV).Nodup := by
    have e : (litsT m n).map varV = (List.range n).map fun i : Nat => (i : Int) + 1 := by
      rw [litsT, List.map_map]
      apply List.map_congr_left
      intro i hi
      exact varV_makeV (by have := List.mem_range.1 hi; omega)
    rw [e]
    exact List.Pairwise.map _ (fun a b h => by omega) List.nodup_range
  rw [assignV_ok (by omega) hb hnd]
  simp
theorem modelV_lits {m : List Bool} {n : Nat} (hm : m.length = n) (hn : n ≤ 100000) : modelV (litsV m) n = m := by
  have hl : litsV m = litsT m n := by rw [litsV, if_neg (by omega), hm]
  rw [hl, modelV, if_neg (by omega), Int.toNat_natCast]
  apply List.ext_getElem?
  intro j
  by_cases hj : j < n
  · have hv := valueV_litsT (m := m) hn hj true (x := (j : Int) + 1) (by simp)
    rw [modelT, List.getElem?_map, List.getElem?_range hj]
    have hg : m[j]? = some (m.getD j false) := by rw [List.getD_eq_getElem?_getD, List.getElem?_eq_getElem (by omega)]; rfl
    rw [hg]
    simp only [Option.map_some]
    rw [hv]
    cases m.getD j false <;> rfl
  · rw [List.getElem?_eq_none (by rw [modelT_len]; omega), List.getElem?_eq_none (by omega)]
theorem value_holds {m : List Bool} {n : Nat} (hm : m.length = n) (hn : n ≤ 100000) {x : Int} (hx : checkV x n = 0) : varV x ≠ 0 ∧ valueV (litsV m) x = if litHolds m x then 1 else -1 := by
  have hl : litsV m = litsT m n := by rw [litsV, if_neg (by omega), hm]
  have hr : x ≠ 0 ∧ -(n : Int) ≤ x ∧ x ≤ n := by revert hx; unfold checkV; (repeat (first | omega | split))
  have hv := (checkV_ok hx).2.2.2.1
  refine ⟨hv, ?_⟩
  rw [hl]
  rcases (show 0 < x ∨ x < 0 by omega) with h | h
  · obtain ⟨i, hi⟩ : ∃ i : Nat, x = (i : Int) + 1 := ⟨(x - 1).toNat, by omega⟩
    have hvx : varV x = (i : Int) + 1 := by subst hi; unfold varV; (repeat (first | omega | split))
    have hsx : sideV x = true := by unfold sideV; simp; omega
    rw [valueV_litsT hn (show i < n by omega) true (by simp [hi]), litHolds, truthV, hvx, hsx, hm]
    have e1 : decide (((i : Int) + 1) ≠ 0) = true := by rw [decide_eq_true_eq]; omega
    have e2 : decide (((i : Int) + 1) ≤ (n : Int)) = true := by rw [decide_eq_true_eq]; omega
    rw [e1, e2, show ((i : Int) + 1 - 1).toNat = i by omega, Bool.true_and, Bool.true_and]
  · obtain ⟨i, hi⟩ : ∃ i : Nat, x = -((i : Int) + 1) := ⟨(-x - 1).toNat, by omega⟩
    have hvx : varV x = (i : Int) + 1 := by subst hi; unfold varV; (repeat (first | omega | split))
    have hsx : sideV x = false := by unfold sideV; simp; omega
    rw [valueV_litsT hn (show i < n by omega) false (by simp [hi]), litHolds, truthV, hvx, hsx, hm]
    have e1 : decide (((i : Int) + 1) ≠ 0) = true := by rw [decide_eq_true_eq]; omega
    have e2 : decide (((i : Int) + 1) ≤ (n : Int)) = true := by rw [decide_eq_true_eq]; omega
    rw [e1, e2, show ((i : Int) + 1 - 1).toNat = i by omega, Bool.true_and, Bool.true_and]
theorem clause_holds {m : List Bool} {n : Nat} (hm : m.length = n) (hn : n ≤ 100000) {c : List Int} (hc : badL c n = false) : clauseV (litsV m) c = if holdsV c m then 1 else -1 := by
  have hx : ∀ x ∈ c, varV x ≠ 0 ∧ valueV (litsV m) x = if litHolds m x then 1 else -1 := by
    intro x hx
    rw [badL, List.any_eq_false] at hc
    exact value_holds hm hn (by simpa using hc x hx)
  have h0 : cnV (litsV m) c 0 = 0 := by
    unfold cnV
    rw [List.countP_eq_zero.2]
    · rfl
    · intro x hxc
      rw [(hx x hxc).2]
      cases litHolds m x <;> simp
  have h1 : 0 < cnV (litsV m) c 1 ↔ holdsV c m = true := by
    unfold cnV holdsV
    rw [List.any_eq_true, Int.natCast_pos, List.countP_pos_iff]
    constructor
    · rintro ⟨x, hxc, e⟩
      refine ⟨x, hxc, ?_⟩
      rw [(hx x hxc).2] at e
      cases hh : litHolds m x
      · rw [hh] at e; simp at e
      · rfl
    · rintro ⟨x, hxc, e⟩
      refine ⟨x, hxc, ?_⟩
      rw [(hx x hxc).2, e]
      simp [(hx x hxc).1]
  unfold clauseV
  rw [h0]
  by_cases hh : holdsV c m = true
  · rw [if_pos (h1.2 hh), if_pos hh]
  · rw [if_neg (fun e => hh (h1.1 e)), if_neg hh]; rfl
end Go.Proofs.YtdgflniahoidmaaGreat

/- Plain laws of layer 3: what a unit clause says, and what comes of it. -/
namespace Go.Proofs.YtdgflniahoidmaaGreat

/-- How many of c's numbers are literals. -/
def manyV (c : List Int) : Int := (c.countP fun x => decide (varV x ≠ 0) : Nat)
theorem manyV_snoc (c : List Int) (x : Int) : manyV (c ++ [x]) = manyV c + if varV x ≠ 0 then 1 else 0 := by
  unfold manyV
  rw [List.countP_append, List.countP_singleton]
  by_cases h : varV x ≠ 0
  · rw [if_pos h, if_pos (by simpa using h)]; omega
  · rw [if_neg h, if_neg (by simpa using h)]; omega
theorem cnV_sum (l c : List Int) : cnV l c 1 + cnV l c (-1) + cnV l c 0 = manyV c := by
  induction c with
  | nil => rfl
  | cons x c ih =>
    have h : ∀ v, cnV l (x :: c) v = cnV l c v + if varV x ≠ 0 ∧ valueV l x = v then 1 else 0 := fun v => by
      have := List.countP_cons (p := fun x => decide (varV x ≠ 0) && decide (valueV l x = v)) (a := x) (l := c)
      unfold cnV
      rw [this]
      by_cases h : varV x ≠ 0 ∧ valueV l x = v
      · rw [if_pos h, if_pos (by simp [h.1, h.2])]; omega
      · rw [if_neg h, if_neg (by simpa using h)]; omega
    have hm : manyV (x :: c) = manyV c + if varV x ≠ 0 then 1 else 0 := by
      unfold manyV
      rw [List.countP_cons]
      by_cases h : varV x ≠ 0
      · rw [if_pos h, if_pos (by simpa using h)]; omega
      · rw [if_neg h, if_neg (by simpa using h)]; omega
    have hb := valueV_bd l x
    rw [h, h, h, hm]
    by_cases hv : varV x = 0
    · simp [hv]; omega
    · rcases (show valueV l x = 1 ∨ valueV l x = -1 ∨ valueV l x = 0 by omega) with e | e | e <;> simp [hv, e] <;> omega
theorem cnV_zero {l c : List Int} {v : Int} (h : cnV l c v = 0) : ∀ x ∈ c, varV x ≠ 0 → valueV l x ≠ v := by
  intro x hx hv e
  unfold cnV at h
  have h' : c.countP (fun x => decide (varV x ≠ 0) && decide (valueV l x = v)) = 0 := by omega
  rw [List.countP_eq_zero] at h'
  exact h' x hx (by simp [hv, e])
theorem valueV_zero {l : List Int} {x : Int} (hv : varV x ≠ 0) (h : valueV l x = 0) : hasV l x = false ∧ hasV l (-x) = false := by
  rw [valueV, if_neg hv] at h
  cases h1 : hasV l x <;> cases h2 : hasV l (-x) <;> simp [h1, h2] at h ⊢
theorem hasV_snoc (l : List Int) (u x : Int) : hasV (l ++ [u]) x = (hasV l x || (u == x)) := by simp [hasV]

theorem unit_facts {l c : List Int} (h0 : cnV l c 0 = 1) : varV (openV l c) ≠ 0 ∧ valueV l (openV l c) = 0 ∧ openV l c ∈ c ∧ ∀ x ∈ c, varV x ≠ 0 → valueV l x = 0 → x = openV l c := by
  have hf := unit_one h0
  have hm : openV l c ∈ c.filter (opP l) := by rw [hf]; exact List.mem_singleton_self _
  rw [List.mem_filter] at hm
  obtain ⟨h1, h2⟩ := hm
  simp only [opP, Bool.and_eq_true, decide_eq_true_eq] at h2
  refine ⟨h2.1, h2.2, h1, fun x hx hv hz => ?_⟩
  have : x ∈ c.filter (opP l) := by rw [List.mem_filter]; exact ⟨hx, by simp [opP, hv, hz]⟩
  rw [hf] at this
  exact List.mem_singleton.1 this

theorem clause_yes {l c : List Int} (h0 : cnV l c 0 = 1) : clauseV (l ++ [openV l c]) c = 1 := by
  obtain ⟨hv, hz, hm, _⟩ := unit_facts h0
  have h : 0 < cnV (l ++ [openV l c]) c 1 := by
    unfold cnV
    rw [Int.natCast_pos, List.countP_pos_iff]
    refine ⟨openV l c, hm, ?_⟩
    rw [valueV, if_neg hv, hasV_snoc]
    simp [hv]
  rw [clauseV, if_pos h]
theorem clause_no {l c : List Int} (h1 : cnV l c 1 = 0) (h0 : cnV l c 0 = 1) : clauseV (l ++ [-openV l c]) c = -1 := by
  obtain ⟨hv, hz, hm, hu⟩ := unit_facts h0
  obtain ⟨hu1, hu2⟩ := valueV_zero hv hz
  have hu0 : openV l c ≠ 0 := (varV_pos hv).1
  have key : ∀ x ∈ c, varV x ≠ 0 → valueV (l ++ [-openV l c]) x = -1 := by
    intro x hx hvx
    have hn1 := cnV_zero h1 x hx hvx
    have hb := valueV_bd l x
    rw [valueV, if_neg hvx, hasV_snoc, hasV_snoc]
    by_cases hz2 : valueV l x = 0
    · have e := hu x hx hvx hz2
      rw [e, hu1, hu2]
      have e1 : (-openV l c == openV l c) = false := by simp; omega
      rw [e1]; simp
    · have hxl : hasV l x = false := by
        cases e : hasV l x
        · rfl
        · rw [valueV, if_neg hvx, e] at hn1; simp at hn1
      have hxn : hasV l (-x) = true := by
        cases e : hasV l (-x)
        · rw [valueV, if_neg hvx, hxl, e] at hz2; simp at hz2
        · rfl
      have e1 : (-openV l c == x) = false := by
        rw [beq_eq_false_iff_ne]
        intro e
        have : -x = openV l c := by omega
        rw [this, hu1] at hxn
        cases hxn
      rw [hxl, hxn, e1]; simp
  have g1 : cnV (l ++ [-openV l c]) c 1 = 0 := by
    unfold cnV
    rw [List.countP_eq_zero.2]
    · rfl
    · intro x hx
      by_cases hvx : varV x = 0
      · simp [hvx]
      · rw [key x hx hvx]; simp
  have g0 : cnV (l ++ [-openV l c]) c 0 = 0 := by
    unfold cnV
    rw [List.countP_eq_zero.2]
    · rfl
    · intro x hx
      by_cases hvx : varV x = 0
      · simp [hvx]
      · rw [key x hx hvx]; simp
  rw [clauseV, g1, g0]; simp
theorem assign_yes {l c : List Int} {v : Int} (h0 : cnV l c 0 = 1) (ha : assignV l v = 0) (hc : checkV (openV l c) v = 0) : assignV (l ++ [openV l c]) v = 0 := by
  obtain ⟨hv, hz, _, _⟩ := unit_facts h0
  obtain ⟨hu1, hu2⟩ := valueV_zero hv hz
  rw [assignV] at ha
  by_cases h1 : v < 0 ∨ 100000 < v
  · rw [if_pos h1] at ha; cases ha
  · rw [if_neg h1] at ha
    cases hb : badL l v
    · rw [hb, if_neg (by simp)] at ha
      by_cases hn : (l.map varV).Nodup
      · refine assignV_ok h1 (badL_snoc hb hc) ?_
        rw [List.map_append]
        rw [show [openV l c].map varV = [varV (openV l c)] from rfl, nodup_snoc]
        refine ⟨hn, fun hm => ?_⟩
        rcases (mem_vars hc).1 hm with e | e
        · rw [hu1] at e; cases e
        · rw [hu2] at e; cases e
      · rw [if_neg hn] at ha; cases ha
    · rw [hb] at ha; simp at ha
end Go.Proofs.YtdgflniahoidmaaGreat
