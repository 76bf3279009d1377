/- More on slices that the call owns: their length, that two lie apart; one element of a slice. -/
import Derived.Test.YtdhohoabcokdjaaApp
import Derived.DataElems
set_option maxRecDepth 100000
namespace Go.Proofs.Ytdhohoabcokdjaa
open Go.RowKit

/-- The length of a slice value. -/
def slen : Value → Nat | .slice _ n _ => n | _ => 0
theorem OwnI.slen {w : World} {base : Nat} {v : Value} {xs : List Int} (h : OwnI w base v xs) : slen v = xs.length := by
  rcases h.2 with ⟨rfl, h1⟩ | ⟨g, cap, cur, rfl, _⟩
  · exact h1.symm
  · rfl

theorem OwnI.less {w : World} {a b : Nat} {v : Value} {xs : List Int} (h : OwnI w b v xs) (hab : a ≤ b) : OwnI w a v xs := by
  refine ⟨h.1, ?_⟩
  rcases h.2 with hn | ⟨g, cap, cur, rfl, hb, rest⟩
  · exact .inl hn
  · exact .inr ⟨g, cap, cur, rfl, by omega, rest⟩

/-- Two slices that lie apart. -/
def Apart (a b : Value) : Prop := a.ownBlock = none ∨ b.ownBlock = none ∨ a.ownBlock ≠ b.ownBlock
theorem Apart.symm {a b : Value} (h : Apart a b) : Apart b a := by
  rcases h with h | h | h
  · exact Or.inr (Or.inl h)
  · exact Or.inl h
  · exact Or.inr (Or.inr (Ne.symm h))
theorem Apart.kept {a b : Value} (h : Apart a b) : a.ownBlock = none ∨ a.ownBlock ≠ b.ownBlock := by
  rcases h with h | h | h
  · exact Or.inl h
  · cases e : a.ownBlock with
    | none => exact Or.inl rfl
    | some k => exact Or.inr (by rw [h]; simp)
  · exact Or.inr h
theorem Apart.grow {a a' b : Value} {m : Nat} (h : Apart a b) (hl : a'.ownBlock = a.ownBlock ∨ a'.ownBlock = some m) (hb : ∀ k, b.ownBlock = some k → k < m) : Apart a' b := by
  rcases hl with hl | hl
  · unfold Apart; rw [hl]; exact h
  · cases e : b.ownBlock with
    | none => exact Or.inr (Or.inl e)
    | some k => exact Or.inr (Or.inr (by rw [hl, e]; have := hb k e; simp; omega))
theorem OwnI.row_ne {w : World} {base b : Nat} {v : Value} {xs : List Int} (h : OwnI w base v xs) (hb : b < base) : some b ≠ v.ownBlock := fun e => by
  have := h.blk b e.symm
  omega
theorem OwnI.map_ne {w : World} {base b : Nat} {v : Value} {xs : List Int} (h : OwnI w base v xs) (hb : b < base) : v.ownBlock = none ∨ v.ownBlock ≠ some b := Or.inr fun e => h.row_ne hb e.symm

theorem OwnI.form {w : World} {base : Nat} {v : Value} {xs : List Int} (h : OwnI w base v xs) : ∃ A n c, v = .slice A n c := by
  rcases h.2 with ⟨rfl, _⟩ | ⟨g, cap, cur, rfl, _⟩ <;> exact ⟨_, _, _, rfl⟩
theorem OwnI.slc {w : World} {base : Nat} {v : Value} {xs : List Int} (h : OwnI w base v xs) (hn : xs.length ≤ 9223372036854775807) (hx : ∀ x ∈ xs, -9223372036854775808 ≤ x ∧ x ≤ 9223372036854775807) : ∃ A n c, v = .slice A n c ∧ IntSl w A n xs ∧ n ≤ c := by
  have h0 : w.ownsRow base 3 1 v xs.length (xs.map (Value.int .i64)) := h
  rcases h.2 with ⟨rfl, h1⟩ | ⟨g, cap, cur, rfl, hb, hgg, hc, _⟩
  · have : xs = [] := List.eq_nil_of_length_eq_zero h1
    subst this
    exact ⟨none, 0, 0, rfl, IntSl.nil w, Nat.le_refl _⟩
  · refine ⟨_, _, _, rfl, ⟨rfl, hn, hx, fun _ => ⟨_, rfl, fun j x hj => ?_⟩⟩, hc⟩
    exact h0.cells (g := g) rfl j _ (by rw [List.getElem?_map, hj]; rfl)
theorem IntSl.one {w : World} {ad : Addr} {n k : Nat} {xs : List Int} {x : Int} (h : IntSl w (some ad) n xs) (hx : xs[k]? = some x) : IntSl w (some (ad.add k)) 1 [x] := by
  have hk : k < xs.length := (List.getElem?_eq_some_iff.1 hx).1
  obtain ⟨_, e, hc⟩ := h.2.2.2 (by have := h.1; omega)
  cases e
  refine ⟨rfl, by decide, ?_, fun _ => ⟨_, rfl, fun j y hj => ?_⟩⟩
  · intro y hy
    rw [List.mem_singleton.1 hy]
    exact h.2.2.1 _ (List.mem_of_getElem? hx)
  · have hj0 : j = 0 := by have := (List.getElem?_eq_some_iff.1 hj).1; simp at this; omega
    subst hj0
    simp at hj
    subst hj
    have e0 : (ad.add k).add 0 = ad.add k := by rw [Addr.add_add]; rfl
    rw [e0]
    exact hc k _ hx
end Go.Proofs.Ytdhohoabcokdjaa
