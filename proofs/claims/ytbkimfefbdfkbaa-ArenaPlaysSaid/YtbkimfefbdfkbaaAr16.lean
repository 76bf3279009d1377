/- Layer 12 (arena): one row more beside an arena. -/
import Derived.Test.YtbkimfefbdfkbaaAr15
set_option maxRecDepth 100000
namespace Go.Proofs.Ytbkimfefbdfkbaa
open Go.RowKit

theorem OwnV.ne_blkK {w : World} {base size n g : Nat} {e t : TypeId} {v : Value} {us : List Value} {cs : Array Value} (h : OwnV w base e size v n us) (hg : Blk w g t cs) (hne : e ≠ t) : v.ownBlock ≠ some g := by
  rcases h.2 with ⟨rfl, _⟩ | ⟨g', cap, cur, rfl, _, hg', _⟩
  · exact fun e => by cases e
  · intro he
    have : g' = g := by simpa [Value.ownBlock] using he
    subst this
    unfold Blk at hg
    rw [hg] at hg'
    simp at hg'
    exact hne hg'.2.symm
theorem own_apartK {w : World} {b1 b2 size n : Nat} {e : TypeId} {v u : Value} {us : List Value} {xs : List Int} (h : OwnV w b1 e size v n us) (k : OwnI w b2 u xs) (hne : e ≠ 3) : u.ownBlock = none ∨ u.ownBlock ≠ v.ownBlock := by
  rcases k.2 with ⟨rfl, _⟩ | ⟨g, cap, cur, rfl, _, hh, _⟩
  · exact Or.inl rfl
  · exact Or.inr (fun he => OwnV.ne_blkK h (t := 3) hh hne he.symm)
theorem RowsK.blk {F : Nat → Prop} {w : World} {v : Value} {R : List ARow} (h : RowsK F w v R) : ∀ k, v.ownBlock = some k → k < w.heap.size := by
  obtain ⟨us, _, h2, _⟩ := h
  exact fun k hk => (h2.blk k hk).2
theorem SlV.new1K (w : World) (cs : Array Value) (t : TypeId) : SlV (w.alloc (.cells cs t)) (some ⟨w.heap.size, 0, none⟩) 1 cs.size cs.toList :=
  ⟨by simp, by decide, fun _ => ⟨_, rfl, fun j u hj => by
    have e : (⟨w.heap.size, 0, none⟩ : Addr).add j = ⟨w.heap.size, j, none⟩ := by unfold Addr.add; split <;> simp_all
    rw [e, cell_of_row (w.alloc (.cells cs t)) w.heap.size j cs t (0, 0) (heap_alloc_new w _)]
    simpa using hj⟩⟩
/-- Behind 'append(rows, row)': wr is the round's start, w1 stands ahead of the append, w4 behind it. -/
theorem rowsK_app {F : Nat → Prop} {wr w1 w4 : World} {v v' : Value} {R : List ARow} {r : ARow} {us : List KRow} {A1 : Option Addr} {n1 c1 : Nat}
    (hF : ∀ b, F b → b < wr.heap.size) (hu1 : us.length = R.length) (hu2 : OwnV w1 0 72 5 v R.length (us.flatMap encK)) (hu3 : ∀ k, v.ownBlock = some k → ¬ F k)
    (hu4 : ∀ (j : Nat) (r : ARow) (q : KRow), R[j]? = some r → us[j]? = some q → KIs F w1 q r) (ho1 : OwnI w1 wr.heap.size (.slice A1 n1 c1) r.lits)
    (ho4 : OwnV w4 0 72 5 v' (R.length + 1) (us.flatMap encK ++ [.int .i64 0, .int .i64 r.id, .slice A1 n1 c1, .bool r.learnt, .bool false])) (hg4 : w1.grownBy w4 v.ownBlock) (hl4 : v'.ownBlock = v.ownBlock ∨ v'.ownBlock = some w1.heap.size) (hsz : wr.heap.size ≤ w1.heap.size) : RowsK F w4 v' (R ++ [r]) := by
  refine ⟨us ++ [⟨r.id, A1, n1, c1, r.learnt⟩], by simp [hu1], ?_, ?_, ?_⟩
  · rw [List.length_append, List.flatMap_append]
    exact ho4
  · intro k hk hf
    rcases hl4 with e | e
    · rw [e] at hk; exact hu3 k hk hf
    · rw [e] at hk; cases hk; have := hF _ hf; omega
  · intro j r' q' hr hq'
    by_cases hj : j < R.length
    · rw [List.getElem?_append_left hj] at hr
      rw [List.getElem?_append_left (by omega)] at hq'
      obtain ⟨e1, e2, e3, e4⟩ := hu4 j r' q' hr hq'
      exact ⟨e1, e2, e3.kept hg4 (own_apartK hu2 e3 (by decide)), e4⟩
    · rw [List.getElem?_append_right (by omega)] at hr
      rw [List.getElem?_append_right (by omega)] at hq'
      have e0 : j - R.length = 0 := by have := (List.getElem?_eq_some_iff.1 hr).1; simp at this; omega
      rw [hu1, e0] at hq'
      rw [e0] at hr
      simp at hr hq'
      subst hr hq'
      refine ⟨rfl, rfl, (ho1.kept hg4 (own_apartK hu2 ho1 (by decide))).less (Nat.zero_le _), fun k hk hf => ?_⟩
      have := (ho1.blk k hk).1
      have := hF k hf
      omega
/-- Rows stay when the arena goes on. -/
theorem RowsK.next {w w' : World} {p mb mb' : Nat} {lv lv' v : Value} {R : List ARow} (h : RowsK (ArF p mb lv) w v R) (hs : Stay (ArF p mb lv) w w') (hn : ∀ b, ArF p mb' lv' b → ArF p mb lv b ∨ w.heap.size ≤ b) : RowsK (ArF p mb' lv') w' v R :=
  ((h.turn (G := fun b => ArF p mb lv b ∨ ArF p mb' lv' b) (fun k hk => by rcases hk with hk | hk; exact Or.inl hk; exact hn k hk)).stay (hs.mono (fun _ _ hf => Or.inl hf))).turn (fun k hk => Or.inl (Or.inr hk))
/-- Numbers told, outside an arena. -/
def KInt (F : Nat → Prop) (w : World) (v : Value) (xs : List Int) : Prop := OwnI w 0 v xs ∧ ∀ k, v.ownBlock = some k → ¬ F k
theorem KInt.ext {F : Nat → Prop} {w w' : World} {v : Value} {xs : List Int} (h : KInt F w v xs) (hx : Ext w w') : KInt F w' v xs := ⟨h.1.ext hx, h.2⟩
theorem KInt.next {w w' : World} {p mb mb' : Nat} {lv lv' v : Value} {xs : List Int} (h : KInt (ArF p mb lv) w v xs) (hs : Stay (ArF p mb lv) w w') (hn : ∀ b, ArF p mb' lv' b → ArF p mb lv b ∨ w.heap.size ≤ b) : KInt (ArF p mb' lv') w' v xs :=
  ⟨h.1.stay hs h.2, fun k hk hf => by
    rcases hn k hf with hf | hf
    · exact h.2 k hk hf
    · have := (h.1.blk k hk).2; omega⟩
theorem KInt.new {F : Nat → Prop} {w w' : World} {v : Value} {xs : List Int} (h : OwnI w' w.heap.size v xs) (hF : ∀ b, F b → b < w.heap.size) : KInt F w' v xs :=
  ⟨h.less (Nat.zero_le _), fun k hk hf => by have := (h.blk k hk).1; have := hF k hf; omega⟩
end Go.Proofs.Ytbkimfefbdfkbaa
