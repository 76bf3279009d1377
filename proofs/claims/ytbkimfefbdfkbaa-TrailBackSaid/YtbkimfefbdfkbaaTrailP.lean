/- Layer 13 (trail), in plain Lean: a trail's rows, what is said of a variable, and going back. -/
import Derived.Test.YtbkimfefbdfkbaaLit
import Derived.Test.YtbkimfefbdfkbaaAssign1
set_option maxRecDepth 100000
namespace Go.Proofs.Ytbkimfefbdfkbaa

structure TRow where
  lit : Int
  level : Int
  reason : Int
structure TSt where
  vars : Int
  rows : List TRow
  depth : Int

def isVar (v : Int) (r : TRow) : Bool := varV r.lit == v
def placeV (rows : List TRow) (v : Int) : Int := idxP (isVar v) rows
def rowOf (rows : List TRow) (v : Int) : Option TRow := rows.find? (isVar v)
def levelV (rows : List TRow) (v : Int) : Int := match rowOf rows v with | some r => r.level | none => -1
def reasonV (rows : List TRow) (v : Int) : Int := match rowOf rows v with | some r => r.reason | none => -1
def litsT (rows : List TRow) : List Int := rows.map TRow.lit
def valP (l : Int) (r : TRow) : Bool := (r.lit == l) || (r.lit == -l)
def valT (rows : List TRow) (l : Int) : Int := match rows.find? (valP l) with | some r => if r.lit = l then 1 else -1 | none => 0
def mayV (S : TSt) (l : Int) : Int := if checkV l S.vars ≠ 0 then 10 else if 0 ≤ placeV S.rows (varV l) then 21 else 0
def impE (S : TSt) (l reason : Int) : Int := if mayV S l ≠ 0 then mayV S l else if reason < 0 then 2 else 0
def decT (S : TSt) (l : Int) : TSt := if mayV S l = 0 then ⟨S.vars, S.rows ++ [⟨l, S.depth + 1, -1⟩], S.depth + 1⟩ else S
def impT (S : TSt) (l reason : Int) : TSt := if impE S l reason = 0 then ⟨S.vars, S.rows ++ [⟨l, S.depth, reason⟩], S.depth⟩ else S
def clampV (lv : Int) : Int := if lv < 0 then 0 else lv
def upTo (rows : List TRow) (lv : Int) : List TRow := rows.filter fun r => decide (r.level ≤ lv)
def beyond (rows : List TRow) (lv : Int) : List TRow := rows.filter fun r => !decide (r.level ≤ lv)
def backT (S : TSt) (lv : Int) : TSt := ⟨S.vars, upTo S.rows (clampV lv), if clampV lv < S.depth then clampV lv else S.depth⟩
def backO (S : TSt) (lv : Int) : List Int := (litsT (beyond S.rows (clampV lv))).reverse

structure TInv (S : TSt) : Prop where
  v0 : 0 ≤ S.vars
  v1 : S.vars ≤ 100000
  d0 : 0 ≤ S.depth
  lits : ∀ r ∈ S.rows, checkV r.lit S.vars = 0
  nodup : (S.rows.map fun r => varV r.lit).Nodup
  sorted : S.rows.Pairwise fun a b => a.level ≤ b.level
  lev0 : ∀ r ∈ S.rows, 0 ≤ r.level ∧ r.level ≤ S.depth
  reas : ∀ r ∈ S.rows, -1 ≤ r.reason ∧ r.reason ≤ 9223372036854775807

theorem check_var {l v : Int} (h : checkV l v = 0) : 1 ≤ varV l ∧ varV l ≤ v ∧ l ≠ 0 ∧ -100000 ≤ l ∧ l ≤ 100000 ∧ (varV l = l ∨ varV l = -l) := by
  revert h; unfold checkV varV; (repeat (first | omega | split))
theorem TInv.new {v : Int} (h0 : 0 ≤ v) (h1 : v ≤ 100000) : TInv ⟨v, [], 0⟩ :=
  ⟨h0, h1, Int.le_refl _, by simp, by simp, by simp, by simp, by simp⟩
theorem place_none {rows : List TRow} {v : Int} : ¬ 0 ≤ placeV rows v ↔ ∀ r ∈ rows, varV r.lit ≠ v := by
  unfold placeV idxP
  cases e : rows.findIdx? (isVar v) with
  | none =>
    rw [List.findIdx?_eq_none_iff] at e
    refine ⟨fun _ r hr => ?_, fun _ => by show ¬ (0 : Int) ≤ -1; omega⟩
    have := e r hr
    simpa [isVar] using this
  | some k =>
    rw [List.findIdx?_eq_some_iff_getElem] at e
    obtain ⟨hk, hp, _⟩ := e
    refine ⟨fun h => absurd (Int.natCast_nonneg k) h, fun h => ?_⟩
    exact absurd (by simpa [isVar] using hp) (h _ (List.getElem_mem hk))
theorem may_ok {S : TSt} {l : Int} (h : mayV S l = 0) : checkV l S.vars = 0 ∧ ∀ r ∈ S.rows, varV r.lit ≠ varV l := by
  unfold mayV at h
  by_cases h1 : checkV l S.vars ≠ 0
  · rw [if_pos h1] at h; cases h
  · rw [if_neg h1] at h
    by_cases h2 : 0 ≤ placeV S.rows (varV l)
    · rw [if_pos h2] at h; cases h
    · exact ⟨by simpa using h1, place_none.1 h2⟩
theorem TInv.push {S : TSt} (h : TInv S) {l lv rs d : Int} (hl : mayV S l = 0) (h1 : S.depth ≤ d) (h2 : S.depth ≤ lv) (h3 : lv ≤ d) (hr : -1 ≤ rs ∧ rs ≤ 9223372036854775807) : TInv ⟨S.vars, S.rows ++ [⟨l, lv, rs⟩], d⟩ := by
  obtain ⟨hc, hn⟩ := may_ok hl
  have hd := h.d0
  refine ⟨h.v0, h.v1, by show 0 ≤ d; omega, ?_, ?_, ?_, ?_, ?_⟩
  · intro r hr
    rcases List.mem_append.1 hr with hr | hr
    · exact h.lits r hr
    · rw [List.mem_singleton.1 hr]; exact hc
  · show (List.map _ (S.rows ++ _)).Nodup
    rw [List.map_append, List.nodup_append]
    refine ⟨h.nodup, by simp, ?_⟩
    intro a ha b hb
    rw [List.map_singleton, List.mem_singleton] at hb
    obtain ⟨y, hy, rfl⟩ := List.mem_map.1 ha
    rw [hb]; exact hn y hy
  · show (S.rows ++ _).Pairwise _
    rw [List.pairwise_append]
    refine ⟨h.sorted, by simp, fun a ha b hb => ?_⟩
    rw [List.mem_singleton.1 hb]
    have := (h.lev0 a ha).2
    show a.level ≤ lv
    omega
  · intro r hr
    rcases List.mem_append.1 hr with hr | hr
    · have := h.lev0 r hr; exact ⟨this.1, by show r.level ≤ d; omega⟩
    · rw [List.mem_singleton.1 hr]; exact ⟨by show 0 ≤ lv; omega, h3⟩
  · intro r hr'
    rcases List.mem_append.1 hr' with hr' | hr'
    · exact h.reas r hr'
    · rw [List.mem_singleton.1 hr']; exact hr
theorem TInv.dec {S : TSt} (h : TInv S) (l : Int) : TInv (decT S l) := by
  unfold decT
  by_cases hl : mayV S l = 0
  · rw [if_pos hl]; exact h.push hl (by omega) (by omega) (by omega) (by omega)
  · rw [if_neg hl]; exact h
theorem imp_ok {S : TSt} {l rs : Int} (h : impE S l rs = 0) : mayV S l = 0 ∧ 0 ≤ rs := by
  unfold impE at h
  by_cases h1 : mayV S l ≠ 0
  · rw [if_pos h1] at h; exact absurd h h1
  · rw [if_neg h1] at h
    by_cases h2 : rs < 0
    · rw [if_pos h2] at h; cases h
    · exact ⟨by simpa using h1, by omega⟩
theorem TInv.imp {S : TSt} (h : TInv S) (l : Int) {rs : Int} (hr : rs ≤ 9223372036854775807) : TInv (impT S l rs) := by
  unfold impT
  by_cases hl : impE S l rs = 0
  · rw [if_pos hl]; obtain ⟨h1, h2⟩ := imp_ok hl; exact h.push h1 (by omega) (by omega) (by omega) (by omega)
  · rw [if_neg hl]; exact h
theorem sublist_upTo (rows : List TRow) (lv : Int) : (upTo rows lv).Sublist rows := List.filter_sublist
theorem mem_upTo {rows : List TRow} {lv : Int} {r : TRow} : r ∈ upTo rows lv ↔ r ∈ rows ∧ r.level ≤ lv := by simp [upTo]
theorem TInv.back {S : TSt} (h : TInv S) (lv : Int) : TInv (backT S lv) := by
  have hd := h.d0
  have hc : 0 ≤ clampV lv := by unfold clampV; split <;> omega
  refine ⟨h.v0, h.v1, by show 0 ≤ (if clampV lv < S.depth then clampV lv else S.depth); split <;> omega, fun r hr => h.lits r (mem_upTo.1 hr).1, ?_, h.sorted.sublist (sublist_upTo _ _), fun r hr => ?_, fun r hr => h.reas r (mem_upTo.1 hr).1⟩
  · exact h.nodup.sublist ((sublist_upTo _ _).map _)
  · obtain ⟨h1, h2⟩ := mem_upTo.1 hr
    have := h.lev0 r h1
    exact ⟨this.1, by show r.level ≤ (if clampV lv < S.depth then clampV lv else S.depth); split <;> omega⟩
/-- Rows whose levels rise: those up to a level stand at the beginning. -/
theorem sorted_split {rows : List TRow} (h : rows.Pairwise fun a b => a.level ≤ b.level) (lv : Int) : rows = upTo rows lv ++ beyond rows lv := by
  induction rows with
  | nil => rfl
  | cons r rows ih =>
    rw [List.pairwise_cons] at h
    unfold upTo beyond at ih ⊢
    by_cases hr : r.level ≤ lv
    · rw [List.filter_cons_of_pos (by simpa using hr), List.filter_cons_of_neg (by simp [hr]), List.cons_append, ← ih h.2]
    · have h1 : rows.filter (fun r => decide (r.level ≤ lv)) = [] := by
        rw [List.filter_eq_nil_iff]
        intro x hx
        have := h.1 x hx
        simp; omega
      have h2 : rows.filter (fun r => !decide (r.level ≤ lv)) = rows := by
        rw [List.filter_eq_self]
        intro x hx
        have := h.1 x hx
        simp; omega
      rw [List.filter_cons_of_neg (by simpa using hr), List.filter_cons_of_pos (by simp; omega), h1, h2, List.nil_append]
/-- Where the literals of each level begin. -/
def beginsOk (rows : List TRow) (depth : Int) (bs : List Int) : Prop := (bs.length : Int) = depth ∧ ∀ (i : Nat) (b : Int), bs[i]? = some b → b = ((upTo rows i).length : Nat)
theorem upTo_snoc (rows : List TRow) (r : TRow) (lv : Int) : upTo (rows ++ [r]) lv = upTo rows lv ++ if r.level ≤ lv then [r] else [] := by
  unfold upTo
  rw [List.filter_append]
  by_cases h : r.level ≤ lv <;> simp [h]
theorem upTo_all {rows : List TRow} {lv : Int} (h : ∀ r ∈ rows, r.level ≤ lv) : upTo rows lv = rows := by
  unfold upTo; rw [List.filter_eq_self]; intro r hr; simpa using h r hr
theorem begins_new : beginsOk [] 0 [] := ⟨rfl, fun i b h => by simp at h⟩
theorem begins_dec {S : TSt} (h : TInv S) {bs : List Int} (hb : beginsOk S.rows S.depth bs) (l rs : Int) : beginsOk (S.rows ++ [⟨l, S.depth + 1, rs⟩]) (S.depth + 1) (bs ++ [(S.rows.length : Int)]) := by
  have hl := hb.1
  refine ⟨by simp; omega, fun i b hi => ?_⟩
  rw [upTo_snoc]
  by_cases hlt : i < bs.length
  · rw [List.getElem?_append_left hlt] at hi
    rw [if_neg (by show ¬ S.depth + 1 ≤ (i : Int); omega), List.append_nil]
    exact hb.2 i b hi
  · have hi' : i = bs.length := by
      have := (List.getElem?_eq_some_iff.1 hi).1
      simp at this; omega
    subst hi'
    rw [List.getElem?_append_right (Nat.le_refl _)] at hi
    simp at hi
    rw [if_neg (by show ¬ S.depth + 1 ≤ (bs.length : Int); omega), List.append_nil, upTo_all (fun r hr => by have := (h.lev0 r hr).2; omega)]
    exact hi.symm
theorem begins_imp {S : TSt} {bs : List Int} (hb : beginsOk S.rows S.depth bs) (l rs : Int) : beginsOk (S.rows ++ [⟨l, S.depth, rs⟩]) S.depth bs := by
  have hl := hb.1
  refine ⟨hl, fun i b hi => ?_⟩
  have hlt := (List.getElem?_eq_some_iff.1 hi).1
  rw [upTo_snoc, if_neg (by show ¬ S.depth ≤ (i : Int); omega), List.append_nil]
  exact hb.2 i b hi
theorem upTo_upTo (rows : List TRow) {a b : Int} (h : a ≤ b) : upTo (upTo rows b) a = upTo rows a := by
  unfold upTo
  rw [List.filter_filter]
  congr 1
  funext r
  by_cases h1 : r.level ≤ a
  · simp [h1, Int.le_trans h1 h]
  · simp [h1]
theorem begins_back {S : TSt} {bs : List Int} (hb : beginsOk S.rows S.depth bs) {lv : Nat} (hlv : (lv : Int) < S.depth) : beginsOk (upTo S.rows lv) lv (bs.take lv) := by
  have hl := hb.1
  refine ⟨by rw [List.length_take]; omega, fun i b hi => ?_⟩
  rw [List.getElem?_take] at hi
  by_cases h : i < lv
  · rw [if_pos h] at hi
    rw [upTo_upTo _ (by omega)]
    exact hb.2 i b hi
  · rw [if_neg h] at hi; cases hi

/-! ### what is said of a variable, cell by cell -/
def markF (rows : List TRow) (v : Int) : Nat → Int
  | 0 => match rowOf rows v with | some r => if r.lit < 0 then -1 else 1 | none => 0
  | 1 => match rowOf rows v with | some r => r.level | none => 0
  | 2 => match rowOf rows v with | some r => r.reason | none => 0
  | 3 => match rowOf rows v with | some _ => placeV rows v | none => 0
  | _ => 0
theorem rowOf_none {rows : List TRow} {v : Int} : rowOf rows v = none ↔ ∀ r ∈ rows, varV r.lit ≠ v := by
  unfold rowOf; rw [List.find?_eq_none]; simp [isVar]
theorem rowOf_snoc_other {rows : List TRow} {r : TRow} {v : Int} (h : varV r.lit ≠ v) : rowOf (rows ++ [r]) v = rowOf rows v := by
  unfold rowOf
  rw [List.find?_append]
  have : List.find? (isVar v) [r] = none := by rw [List.find?_eq_none]; simp [isVar, h]
  rw [this]
  cases rows.find? (isVar v) <;> rfl
theorem rowOf_snoc_new {rows : List TRow} {r : TRow} {v : Int} (h : ∀ x ∈ rows, varV x.lit ≠ v) (hr : varV r.lit = v) : rowOf (rows ++ [r]) v = some r := by
  have h1 := rowOf_none.2 h
  unfold rowOf at h1 ⊢
  rw [List.find?_append, h1]
  simp [isVar, hr]
theorem placeV_snoc_other {rows : List TRow} {r : TRow} {v : Int} (h : varV r.lit ≠ v) : placeV (rows ++ [r]) v = placeV rows v := by
  unfold placeV idxP
  rw [List.findIdx?_append]
  have : List.findIdx? (isVar v) [r] = none := by rw [List.findIdx?_eq_none_iff]; simp [isVar, h]
  rw [this]
  cases rows.findIdx? (isVar v) <;> rfl
theorem placeV_snoc_new {rows : List TRow} {r : TRow} {v : Int} (h : ∀ x ∈ rows, varV x.lit ≠ v) (hr : varV r.lit = v) : placeV (rows ++ [r]) v = (rows.length : Nat) := by
  have h1 : rows.findIdx? (isVar v) = none := by rw [List.findIdx?_eq_none_iff]; intro x hx; simp [isVar, h x hx]
  unfold placeV idxP
  rw [List.findIdx?_append, h1]
  simp [isVar, hr]
theorem markF_snoc_other {rows : List TRow} {r : TRow} {v : Int} (h : varV r.lit ≠ v) (k : Nat) : markF (rows ++ [r]) v k = markF rows v k := by
  match k with
  | 0 | 1 | 2 | 3 => simp only [markF, rowOf_snoc_other h, placeV_snoc_other h]
  | _ + 4 => rfl
theorem markF_none {rows : List TRow} {v : Int} (h : ∀ x ∈ rows, varV x.lit ≠ v) (k : Nat) : markF rows v k = 0 := by
  match k with
  | 0 | 1 | 2 | 3 => simp only [markF, rowOf_none.2 h]
  | _ + 4 => rfl
end Go.Proofs.Ytbkimfefbdfkbaa
