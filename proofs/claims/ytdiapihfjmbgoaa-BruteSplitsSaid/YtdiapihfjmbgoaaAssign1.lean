/- Layer 3 (assign): a literal's value, by the list and by the map; the reference's. -/
import Derived.Test.YtdiapihfjmbgoaaLit
import Derived.Test.YtdiapihfjmbgoaaMap
import Derived.Laws.EntriesVeiled
set_option maxRecDepth 100000
namespace Go.Proofs.Ytdiapihfjmbgoaa
open Go.RowKit Go.Maps

theorem varV_bd (l : Int) : 0 ≤ varV l ∧ varV l ≤ 100000 := by unfold varV; split <;> (try split) <;> omega
theorem varV_pos {l : Int} (h : varV l ≠ 0) : l ≠ 0 ∧ -100000 ≤ l ∧ l ≤ 100000 := by revert h; unfold varV; split <;> (try split) <;> omega
theorem varV_index (l : Int) : (0 ≤ indexV l) ↔ varV l ≠ 0 := by unfold indexV varV; (repeat (first | omega | split))

/-- Is a number in a list? -/
def hasV (xs : List Int) (x : Int) : Bool := xs.any (· == x)
theorem hasV_cnt (xs : List Int) (x : Int) : decide (0 < cntV xs x) = hasV xs x := by
  unfold cntV hasV
  rw [Bool.eq_iff_iff, decide_eq_true_eq, List.any_eq_true]
  constructor
  · intro h; exact ⟨x, List.count_pos_iff.1 (by omega), by simp⟩
  · rintro ⟨y, hy, he⟩
    obtain rfl : y = x := by simpa using he
    have := List.count_pos_iff.2 hy; omega

/-- The first place of a number, or -1. -/
def idxV (xs : List Int) (x : Int) : Int := match xs.findIdx? (· == x) with | some k => k | none => -1
theorem findIdx_snoc_none {α : Type} {p : α → Bool} {xs : List α} {y : α} {k : Nat} (h : (xs.take k).findIdx? p = none) (hy : xs[k]? = some y) (hne : p y = false) : (xs.take (k + 1)).findIdx? p = none := by
  rw [take_succ_of hy, List.findIdx?_append, h]
  simp [hne]
theorem findIdx_hit {α : Type} {p : α → Bool} {xs : List α} {y : α} {k : Nat} (h : (xs.take k).findIdx? p = none) (hy : xs[k]? = some y) (hp : p y = true) : xs.findIdx? p = some k := by
  have hk : k < xs.length := (List.getElem?_eq_some_iff.1 hy).1
  rw [List.findIdx?_eq_some_iff_getElem]
  refine ⟨hk, ?_, ?_⟩
  · have := (List.getElem?_eq_some_iff.1 hy).2; rw [this]; exact hp
  · intro j hj
    rw [List.findIdx?_eq_none_iff] at h
    have := h xs[j] (by rw [List.mem_take_iff_getElem]; exact ⟨j, by omega, rfl⟩)
    simpa using this

theorem hasV_idx (xs : List Int) (x : Int) : decide (0 ≤ idxV xs x) = hasV xs x := by
  unfold idxV hasV
  cases e : xs.findIdx? (· == x) with
  | none =>
    rw [List.findIdx?_eq_none_iff] at e
    have : xs.any (· == x) = false := by rw [List.any_eq_false]; intro y hy; simp [e y hy]
    simp [this]
  | some k =>
    rw [List.findIdx?_eq_some_iff_getElem] at e
    obtain ⟨hk, e, _⟩ := e
    have : xs.any (· == x) = true := by rw [List.any_eq_true]; exact ⟨_, List.getElem_mem hk, e⟩
    simp [this]

theorem rHas_c (A : Option Addr) (n c : Nat) (xs : List Int) (x : Int) (w : World) (h : IntSl w A n xs) :
    Calls Try.prog 52 #[.slice A n c, .int .i64 x] w fun e w' => e = .returned (.bool (hasV xs x)) ∧ w = w' := by
  have hn := h.len
  go_enter Try.func52, Try.ntmps52
  go_wp2
  go_loop [5] (fun i => ∃ k : Nat, k ≤ n ∧ i = .int .i64 k ∧ hasV (xs.take k) x = false) (fun i => n - (intOf i).toNat)
  case atStart => exact ⟨0, Nat.zero_le _, rfl, rfl⟩
  case round =>
    obtain ⟨k, hk, rfl, hno⟩ := hrel
    have HN := Lib.hid hno
    clear hno
    by_cases hlt : k < n
    · obtain ⟨ad, y, rfl, hy, hc, hx1, hx2⟩ := h.at_ hlt
      by_cases hxy : y = x
      · subst hxy
        go_wp2
        go_ret
        refine ⟨ret_bool ?_, rfl⟩
        symm
        rw [hasV, List.any_eq_true]
        exact ⟨y, List.mem_iff_getElem?.2 ⟨k, hy.out⟩, by simp⟩
      · have hb : (y == x) = false := by simpa using hxy
        clear hxy
        go_wp2
        go_round
        case rel => exact ⟨k + 1, by omega, by go_num, by have := HN.out; simp only [hasV] at this ⊢; rw [take_succ_of hy.out, List.any_append, this]; simp [hb]⟩
        case measure => simp [intOf]; omega
    · go_wp2
      go_ret
      refine ⟨ret_bool ?_, rfl⟩
      have := HN.out
      rw [take_len_of h.1 hlt] at this
      exact this.symm

/-- A literal's value. -/
def valueV (xs : List Int) (x : Int) : Int := if varV x = 0 then 0 else if hasV xs x then 1 else if hasV xs (-x) then -1 else 0
theorem valueV_bd (xs : List Int) (x : Int) : -1 ≤ valueV xs x ∧ valueV xs x ≤ 1 := by unfold valueV; (repeat (first | omega | split))


end Go.Proofs.Ytdiapihfjmbgoaa

/- slices.IndexFunc over a closure that only computes. -/
namespace Go.Proofs.Ytdiapihfjmbgoaa
open Go.RowKit Go.Maps

/-- The first place where p holds, or -1. -/
def idxP {α : Type} (p : α → Bool) (xs : List α) : Int := match xs.findIdx? p with | some k => k | none => -1

/-- A call of F enters its body. -/
def Enters (F : Nat) : Prop := ∀ (args : Array Value) (w : World), Sem.run Try.prog (callFunc F args) w = .ok (.enter F args) w

theorem enters_taut : Enters 65 := by
  intro args w
  go_simp

theorem idxFunc_c (A : Option Addr) (n c : Nat) (xs : List Int) (p : Int → Bool) (F : Nat) (q : Value) (w : World) (h : IntSl w A n xs)
    (hF : Enters F)
    (hf : ∀ x, x ∈ xs → Calls Try.prog F #[.int .i64 x, q] w fun e w' => e = .returned (.bool (p x)) ∧ w = w') :
    Calls Try.prog 69 #[.slice A n c, .func (.func F) #[] #[q]] w fun e w' => e = .returned (.int .i64 (idxP p xs)) ∧ w = w' := by
  have hn := h.len
  go_enter Try.func69, Try.ntmps69
  go_wp2
  go_loop [8] (fun i => ∃ k : Nat, k ≤ n ∧ i = .int .i64 k ∧ (xs.take k).findIdx? p = none) (fun i => n - (intOf i).toNat)
  case atStart => exact ⟨0, Nat.zero_le _, rfl, rfl⟩
  case round =>
    obtain ⟨k, hk, rfl, hno⟩ := hrel
    have HN := Lib.hid hno
    clear hno
    by_cases hlt : k < n
    · obtain ⟨ad, y, rfl, hy, hc, hx1, hx2⟩ := h.at_ hlt
      cases hp : p y with
      | true =>
        have HPY := Lib.hid hp
        clear hp
        go_wp2_with fail
        rw [hF, Oper.upon_enter]
        refine (hf y (List.mem_of_getElem? hy.out)).mono ?_
        rintro e w' ⟨rfl, rfl⟩
        rw [HPY.out]
        go_wp2
        go_ret
        exact ⟨ret_int (by rw [idxP, findIdx_hit HN.out hy.out HPY.out]), rfl⟩
      | false =>
        have HPY := Lib.hid hp
        clear hp
        go_wp2_with fail
        rw [hF, Oper.upon_enter]
        refine (hf y (List.mem_of_getElem? hy.out)).mono ?_
        rintro e w' ⟨rfl, rfl⟩
        rw [HPY.out]
        go_wp2
        go_round
        case rel => exact ⟨k + 1, by omega, by go_num, findIdx_snoc_none HN.out hy.out HPY.out⟩
        case measure => simp [intOf]; omega
    · go_wp2
      go_ret
      refine ⟨ret_int ?_, rfl⟩
      have := HN.out
      rw [take_len_of h.1 hlt] at this
      rw [idxP, this]

theorem containsFunc_c (A : Option Addr) (n c : Nat) (xs : List Int) (p : Int → Bool) (F : Nat) (q : Value) (w : World) (h : IntSl w A n xs)
    (hF : Enters F)
    (hf : ∀ x, x ∈ xs → Calls Try.prog F #[.int .i64 x, q] w fun e w' => e = .returned (.bool (p x)) ∧ w = w') :
    Calls Try.prog 63 #[.slice A n c, .func (.func F) #[] #[q]] w fun e w' => e = .returned (.bool (xs.any p)) ∧ w = w' := by
  go_enter Try.func63, Try.ntmps63
  go_wp2_with (go_at_call 69; refine (idxFunc_c _ _ _ xs p _ _ _ h hF hf).mono ?_; rintro e w' ⟨rfl, rfl⟩)
  go_ret
  refine ⟨ret_bool ?_, rfl⟩
  unfold idxP
  cases e : xs.findIdx? p with
  | none =>
    rw [List.findIdx?_eq_none_iff] at e
    have : xs.any p = false := by rw [List.any_eq_false]; intro y hy; simp [e y hy]
    simp [this]
  | some k =>
    rw [List.findIdx?_eq_some_iff_getElem] at e
    obtain ⟨hk, e, _⟩ := e
    have : xs.any p = true := by rw [List.any_eq_true]; exact ⟨_, List.getElem_mem hk, e⟩
    simp [this]
end Go.Proofs.Ytdiapihfjmbgoaa

/- Layer 3 (assign): a clause's literals counted by their values. -/
namespace Go.Proofs.Ytdiapihfjmbgoaa
open Go.RowKit Go.Maps

/-- How many of c's literals have the value v in l. -/
def cnV (l c : List Int) (v : Int) : Int := (c.countP fun x => decide (varV x ≠ 0) && decide (valueV l x = v) : Nat)
theorem cnV_snoc (l c : List Int) (x v : Int) : cnV l (c ++ [x]) v = cnV l c v + if varV x ≠ 0 ∧ valueV l x = v then 1 else 0 := by
  unfold cnV
  rw [List.countP_append, List.countP_singleton]
  by_cases h : varV x ≠ 0 ∧ valueV l x = v
  · rw [if_pos h, if_pos (by simp [h.1, h.2])]; omega
  · rw [if_neg h, if_neg (by simpa using h)]; omega
theorem cnV_bd (l c : List Int) (v : Int) : 0 ≤ cnV l c v ∧ cnV l c v ≤ c.length := by
  unfold cnV; exact ⟨by omega, by have := List.countP_le_length (p := fun x => decide (varV x ≠ 0) && decide (valueV l x = v)) (l := c); omega⟩
theorem cnV_nil (l : List Int) (v : Int) : cnV l [] v = 0 := rfl


end Go.Proofs.Ytdiapihfjmbgoaa

/- Layer 3 (assign): the reference's count; a clause's value, by the count and by the document. -/
namespace Go.Proofs.Ytdiapihfjmbgoaa
open Go.RowKit Go.Maps

/-- A clause's value. -/
def clauseV (l c : List Int) : Int := if 0 < cnV l c 1 then 1 else if 0 < cnV l c 0 then 0 else -1
theorem clauseV_bd (l c : List Int) : -1 ≤ clauseV l c ∧ clauseV l c ≤ 1 := by unfold clauseV; (repeat (first | omega | split))
theorem clauseV_nil (l : List Int) : clauseV l [] = -1 := by rw [clauseV, cnV_nil, cnV_nil]; simp
theorem clauseV_skip (l c : List Int) {x : Int} (hv : varV x = 0) : clauseV l (c ++ [x]) = clauseV l c := by
  unfold clauseV; rw [cnV_snoc, cnV_snoc]; simp [hv]
theorem clauseV_up (l c : List Int) {x : Int} (hv : varV x ≠ 0) (hlt : clauseV l c < valueV l x) : clauseV l (c ++ [x]) = valueV l x := by
  have hb := valueV_bd l x
  have h1 := (cnV_bd l c 1).1
  have h2 := (cnV_bd l c 0).1
  have s1 := cnV_snoc l c x 1
  have s2 := cnV_snoc l c x 0
  unfold clauseV at hlt ⊢
  rw [s1, s2]
  rcases (show valueV l x = 1 ∨ valueV l x = -1 ∨ valueV l x = 0 by omega) with e | e | e <;> rw [e] at hlt ⊢ <;> simp only [hv, ne_eq, not_false_eq_true, true_and, if_true] <;> simp <;> (revert hlt; (repeat (first | omega | split)))
theorem clauseV_stay (l c : List Int) {x : Int} (hv : varV x ≠ 0) (hlt : ¬ clauseV l c < valueV l x) : clauseV l (c ++ [x]) = clauseV l c := by
  have hb := valueV_bd l x
  have h1 := (cnV_bd l c 1).1
  have h2 := (cnV_bd l c 0).1
  have s1 := cnV_snoc l c x 1
  have s2 := cnV_snoc l c x 0
  unfold clauseV at hlt ⊢
  rw [s1, s2]
  rcases (show valueV l x = 1 ∨ valueV l x = -1 ∨ valueV l x = 0 by omega) with e | e | e <;> rw [e] at hlt ⊢ <;> simp only [hv, ne_eq, not_false_eq_true, true_and, if_true] <;> simp <;> (revert hlt; (repeat (first | omega | split)))


end Go.Proofs.Ytdiapihfjmbgoaa

/- Layer 3 (assign): what a unit clause says. -/
namespace Go.Proofs.Ytdiapihfjmbgoaa
open Go.RowKit Go.Maps

/-- Is a literal open? -/
def opP (l : List Int) (x : Int) : Bool := decide (varV x ≠ 0) && decide (valueV l x = 0)
theorem cnV_filter (l c : List Int) : cnV l c 0 = ((c.filter (opP l)).length : Nat) := by rw [← List.countP_eq_length_filter]; rfl
/-- The open literal of a clause. -/
def openV (l c : List Int) : Int := (c.filter (opP l)).headD 0
/-- Is a clause unit? -/
def unitB (l c : List Int) : Bool := decide (cnV l c 1 = 0) && decide (cnV l c 0 = 1)
def unitU (l c : List Int) : Int := if unitB l c then openV l c else 0
theorem unitB_of {l c : List Int} (h1 : cnV l c 1 = 0) (h0 : cnV l c 0 = 1) : unitB l c = true := by simp [unitB, h1, h0]
theorem unitB_not1 {l c : List Int} (h1 : ¬ cnV l c 1 = 0) : unitB l c = false := by simp [unitB, h1]
theorem unitB_not0 {l c : List Int} (h0 : ¬ cnV l c 0 = 1) : unitB l c = false := by simp [unitB, h0]
theorem unit_one {l c : List Int} (h0 : cnV l c 0 = 1) : c.filter (opP l) = [openV l c] := by
  rw [cnV_filter] at h0
  unfold openV
  have h1 : (c.filter (opP l)).length = 1 := by omega
  obtain ⟨a, e⟩ := List.length_eq_one_iff.1 h1
  rw [e]; rfl
theorem find_first {α : Type} {p : α → Bool} {xs : List α} {d : α} (h : xs.filter p ≠ []) : ∃ k : Nat, idxP p xs = k ∧ k < xs.length ∧ xs[k]? = some ((xs.filter p).headD d) := by
  unfold idxP
  cases e : xs.findIdx? p with
  | none =>
    rw [List.findIdx?_eq_none_iff] at e
    exact absurd (List.filter_eq_nil_iff.2 (fun x hx => by simp [e x hx])) h
  | some k =>
    have e' := e
    rw [List.findIdx?_eq_some_iff_getElem] at e
    obtain ⟨hk, hp, hno⟩ := e
    refine ⟨k, rfl, hk, ?_⟩
    have hf : xs.find? p = some xs[k] := by
      rw [List.find?_eq_some_iff_getElem]
      exact ⟨hp, k, hk, rfl, fun j hj => by simpa using hno j hj⟩
    rw [← List.head?_filter] at hf
    cases hq : xs.filter p with
    | nil => rw [hq] at hf; simp at hf
    | cons y ys => rw [hq] at hf; simp at hf; simp [hf, hk]

/-- What the reference's Unit hands back. -/
theorem rUnit_snoc {l c : List Int} {k : Nat} {x : Int} (hx : c[k]? = some x) : (c.take (k + 1)).filter (opP l) = (c.take k).filter (opP l) ++ if opP l x then [x] else [] := by
  rw [take_succ_of hx, List.filter_append]; congr 1; simp only [List.filter_cons, List.filter_nil]


end Go.Proofs.Ytdiapihfjmbgoaa
