/- Layer 12 (arena), in plain Lean: rows, their places, and what a call makes of them. -/
import Derived.Test.YtbkimfefbdfkbaaClause
set_option maxRecDepth 100000
namespace Go.Proofs.Ytbkimfefbdfkbaa

structure ARow where
  pos : Int
  id : Int
  lits : List Int
  learnt : Bool
  live : Bool
structure ASt where
  rows : List ARow
  size : Int

def sideA (r : ARow) : Int := if r.live then (if r.learnt then 1 else 0) else 2
def encR (r : ARow) : List Int := r.id :: (r.lits.length : Int) :: sideA r :: r.lits
def flatA (rows : List ARow) : List Int := rows.flatMap encR
def atP (x : Int) (r : ARow) : Bool := r.pos == x && r.live
def headA (rows : List ARow) (x : Int) : Int := match rows.find? (atP x) with | some r => r.id | none => 0
def findA (rows : List ARow) (x : Int) : Int := idxP (atP x) rows
def putE (id : Int) (lits : List Int) : Int := if id < 1 ∨ 10000000 < id then 2 else cCheckV lits 100000
def putS (S : ASt) (id : Int) (lits : List Int) (learnt : Bool) : ASt := if putE id lits = 0 then ⟨S.rows ++ [⟨S.size, id, lits, learnt, true⟩], S.size + 3 + lits.length⟩ else S
def putAt (S : ASt) (id : Int) (lits : List Int) : Int := if putE id lits = 0 then S.size else 0
def stepAt (rows : List ARow) (x : Int) (f : ARow → ARow) : List ARow :=
  match rows.findIdx? (atP x) with
  | some k => (match rows[k]? with | some r => rows.set k (f r) | none => rows)
  | none => rows
def swapL (l : List Int) (i j : Nat) : List Int := (l.set i (l.getD j 0)).set j (l.getD i 0)
def swapE (S : ASt) (x i j : Int) : Int := match S.rows.find? (atP x) with
  | none => 20
  | some r => if i < 0 ∨ j < 0 ∨ (r.lits.length : Int) ≤ i ∨ (r.lits.length : Int) ≤ j then 2 else 0
def swapS (S : ASt) (x i j : Int) : ASt := if swapE S x i j = 0 then ⟨stepAt S.rows x fun r => { r with lits := swapL r.lits i.toNat j.toNat }, S.size⟩ else S
def dropE (S : ASt) (x : Int) : Int := match S.rows.find? (atP x) with | none => 20 | some _ => 0
def dropS (S : ASt) (x : Int) : ASt := if dropE S x = 0 then ⟨stepAt S.rows x fun r => { r with live := false }, S.size⟩ else S
def allA (rows : List ARow) : List Int := (rows.filter fun r => r.live).map ARow.pos
def packA : List ARow → Int → List ARow
  | [], _ => []
  | r :: l, p => if r.live then { r with pos := p } :: packA l (p + 3 + r.lits.length) else packA l p
def compS (S : ASt) : ASt := ⟨packA S.rows 0, (flatA (packA S.rows 0)).length⟩

structure AInv (S : ASt) : Prop where
  pos : ∀ (i : Nat) (r : ARow), S.rows[i]? = some r → r.pos = ((flatA (S.rows.take i)).length : Nat)
  size : S.size = ((flatA S.rows).length : Nat)
  ok : ∀ r ∈ S.rows, (1 ≤ r.id ∧ r.id ≤ 10000000) ∧ r.lits.length ≤ 1000 ∧ ∀ x ∈ r.lits, -100000 ≤ x ∧ x ≤ 100000

theorem encR_len (r : ARow) : (encR r).length = r.lits.length + 3 := by simp [encR]
theorem flatA_snoc (rows : List ARow) (r : ARow) : flatA (rows ++ [r]) = flatA rows ++ encR r := by unfold flatA; rw [List.flatMap_append]; simp
theorem flatA_app (a b : List ARow) : flatA (a ++ b) = flatA a ++ flatA b := by unfold flatA; rw [List.flatMap_append]
theorem arow_split {rows : List ARow} {i : Nat} {r : ARow} (h : rows[i]? = some r) : flatA rows = flatA (rows.take i) ++ (encR r ++ flatA (rows.drop (i + 1))) := by
  have e : rows = rows.take i ++ ([r] ++ rows.drop (i + 1)) := by
    have h1 := (List.take_append_drop (i + 1) rows).symm
    rw [take_succ_of h, List.append_assoc] at h1
    exact h1
  have e2 := congrArg flatA e
  rw [flatA_app, flatA_app] at e2
  have e3 : flatA [r] = encR r := by simp [flatA]
  rw [e3] at e2
  exact e2
theorem arow_at {rows : List ARow} {i : Nat} {r : ARow} (h : rows[i]? = some r) {k : Nat} (hk : k < (encR r).length) : (flatA rows)[(flatA (rows.take i)).length + k]? = (encR r)[k]? := by
  rw [arow_split h, List.getElem?_append_right (by omega), Nat.add_sub_cancel_left, List.getElem?_append_left hk]
theorem arow_le {rows : List ARow} {i : Nat} {r : ARow} (h : rows[i]? = some r) : (flatA (rows.take i)).length + (encR r).length ≤ (flatA rows).length := by
  rw [arow_split h, List.length_append, List.length_append]; omega
theorem arow_set {rows : List ARow} {i : Nat} {r r' : ARow} (h : rows[i]? = some r) {k : Nat} {y : Int} (hk : k < (encR r).length) (he : encR r' = (encR r).set k y) : flatA (rows.set i r') = (flatA rows).set ((flatA (rows.take i)).length + k) y := by
  have hi := (List.getElem?_eq_some_iff.1 h).1
  have h1 : (rows.set i r')[i]? = some r' := by rw [List.getElem?_set_self hi]
  rw [arow_split h1, arow_split h, List.take_set_of_le (Nat.le_refl _), List.drop_set_of_lt (by omega)]
  rw [List.set_append_right _ _ (by omega), Nat.add_sub_cancel_left, List.set_append_left _ _ hk, he]
theorem pos_lt {rows : List ARow} {i j : Nat} {r : ARow} (hi : rows[i]? = some r) (hij : i < j) : (flatA (rows.take i)).length + 3 ≤ (flatA (rows.take j)).length := by
  have h1 : (rows.take j)[i]? = some r := by rw [List.getElem?_take_of_lt hij]; exact hi
  have h2 := arow_le h1
  rw [List.take_take, Nat.min_eq_left (by omega), encR_len] at h2
  omega
theorem AInv.inj {S : ASt} (h : AInv S) {i j : Nat} {a b : ARow} (hi : S.rows[i]? = some a) (hj : S.rows[j]? = some b) (he : a.pos = b.pos) : i = j := by
  have h1 := h.pos i a hi
  have h2 := h.pos j b hj
  rcases Nat.lt_trichotomy i j with hlt | e | hlt
  · have := pos_lt hi hlt; omega
  · exact e
  · have := pos_lt hj hlt; omega
/-- The row at a place. -/
theorem find_at {rows : List ARow} {x : Int} {r : ARow} (h : rows.find? (atP x) = some r) : ∃ i, rows.findIdx? (atP x) = some i ∧ rows[i]? = some r ∧ r.pos = x ∧ r.live = true := by
  have hp := List.find?_some h
  simp only [atP, Bool.and_eq_true, beq_iff_eq] at hp
  cases hi : rows.findIdx? (atP x) with
  | none =>
    rw [List.findIdx?_eq_none_iff] at hi
    have hm := List.mem_of_find?_eq_some h
    have := hi r hm
    have h3 := List.find?_some h
    rw [h3] at this; cases this
  | some i =>
    rw [List.findIdx?_eq_some_iff_getElem] at hi
    obtain ⟨hl, h1, h2⟩ := hi
    refine ⟨i, rfl, ?_, hp.1, hp.2⟩
    rw [List.find?_eq_some_iff_getElem] at h
    obtain ⟨h0, j, hj, he, hb⟩ := h
    rcases Nat.lt_trichotomy i j with hlt | e | hlt
    · have := hb i hlt; simp [h1] at this
    · subst e; rw [List.getElem?_eq_getElem hl, he]
    · have := h2 j hlt; rw [he] at this; exact absurd h0 this
theorem head_pos {S : ASt} (h : AInv S) (x : Int) : headA S.rows x = 0 ↔ S.rows.find? (atP x) = none := by
  unfold headA
  cases e : S.rows.find? (atP x) with
  | none => simp
  | some r => have := (h.ok r (List.mem_of_find?_eq_some e)).1.1; simp; omega
theorem head_bd {S : ASt} (h : AInv S) (x : Int) : 0 ≤ headA S.rows x ∧ headA S.rows x ≤ 10000000 := by
  unfold headA
  cases e : S.rows.find? (atP x) with
  | none => simp
  | some r => have := (h.ok r (List.mem_of_find?_eq_some e)).1; simp; omega
theorem arow_bd {S : ASt} (h : AInv S) : ∀ x ∈ flatA S.rows, -9223372036854775808 ≤ x ∧ x ≤ 9223372036854775807 := by
  intro x hx
  obtain ⟨r, hr, hx⟩ := List.mem_flatMap.1 hx
  have hk := h.ok r hr
  simp only [encR, List.mem_cons] at hx
  rcases hx with rfl | rfl | rfl | hx
  · omega
  · omega
  · unfold sideA; split <;> (try split) <;> omega
  · have := hk.2.2 x hx; omega
theorem arow_len {S : ASt} (h : AInv S) : (flatA S.rows).length ≤ S.rows.length * 1003 := by
  have key : ∀ rows : List ARow, (∀ r ∈ rows, r.lits.length ≤ 1000) → (flatA rows).length ≤ rows.length * 1003 := by
    intro rows
    induction rows with
    | nil => intro _; simp [flatA]
    | cons r l ih =>
      intro hk
      have h1 := ih fun x hx => hk x (List.mem_cons_of_mem _ hx)
      have h2 := hk r (List.mem_cons_self ..)
      have e : flatA (r :: l) = encR r ++ flatA l := by simp [flatA]
      rw [e, List.length_append, encR_len, List.length_cons]
      omega
  exact key _ fun r hr => (h.ok r hr).2.1
end Go.Proofs.Ytbkimfefbdfkbaa
