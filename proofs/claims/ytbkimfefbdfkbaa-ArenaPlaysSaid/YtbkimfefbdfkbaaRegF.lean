/- A region that draws its order, inside a loop: what it leaves in the frame, slot by slot. -/
import Derived.Test.YtbkimfefbdfkbaaRegG
set_option maxRecDepth 100000
namespace Go.Proofs.Ytbkimfefbdfkbaa
open Go.RowKit

/-- The frame behind a region: each slot that it writes holds v. -/
def fill (l : List Oper) (v : Nat → Value) (t : Array Value) : Array Value := l.foldl (fun t o => match o.dst with | some d => t.setIfInBounds d (v d) | none => t) t
theorem fill_cons (o : Oper) (l : List Oper) (v : Nat → Value) (t : Array Value) : fill (o :: l) v t = fill l v (match o.dst with | some d => t.setIfInBounds d (v d) | none => t) := rfl
theorem fill_size (v : Nat → Value) : ∀ (l : List Oper) (t : Array Value), (fill l v t).size = t.size
  | [], _ => rfl
  | o :: l, t => by
    rw [fill_cons, fill_size v l]
    split
    · exact Array.size_setIfInBounds ..
    · rfl
theorem fill_off (v : Nat → Value) {i : Nat} : ∀ (l : List Oper) (t : Array Value), (∀ o ∈ l, o.dst ≠ some i) → (fill l v t)[i]? = t[i]?
  | [], _, _ => rfl
  | o :: l, t, h => by
    rw [fill_cons, fill_off v l _ (fun p hp => h p (List.mem_cons_of_mem _ hp))]
    split
    · rename_i d hd
      rw [Array.getElem?_setIfInBounds_ne (fun e => h o (List.mem_cons_self ..) (by rw [hd, e]))]
    · rfl
theorem fill_stays (v : Nat → Value) {i : Nat} : ∀ (l : List Oper) (t : Array Value), t[i]? = some (v i) → (fill l v t)[i]? = some (v i)
  | [], _, h => h
  | o :: l, t, h => by
    rw [fill_cons]
    refine fill_stays v l _ ?_
    split
    · rename_i d hd
      by_cases e : d = i
      · subst e
        have hlt := (Array.getElem?_eq_some_iff.1 h).1
        rw [Array.getElem?_setIfInBounds_self, if_pos hlt]
      · rw [Array.getElem?_setIfInBounds_ne e]; exact h
    · exact h
theorem fill_on (v : Nat → Value) {i : Nat} : ∀ (l : List Oper) (t : Array Value), (∃ o ∈ l, o.dst = some i) → i < t.size → (fill l v t)[i]? = some (v i)
  | [], _, h, _ => by obtain ⟨o, ho, _⟩ := h; cases ho
  | o :: l, t, h, hi => by
    rw [fill_cons]
    by_cases hd : o.dst = some i
    · refine fill_stays v l _ ?_
      rw [hd]
      show (t.setIfInBounds i (v i))[i]? = _
      rw [Array.getElem?_setIfInBounds_self, if_pos hi]
    · refine fill_on v l _ ?_ ?_
      · obtain ⟨p, hp, hpd⟩ := h
        rcases List.mem_cons.1 hp with e | hp
        · subst e; exact absurd hpd hd
        · exact ⟨p, hp, hpd⟩
      · split
        · rw [Array.size_setIfInBounds]; exact hi
        · exact hi

/-- **The region's law**, with the frame that it leaves. -/
theorem wp_region_invF {Q : Exit → Act → World → Prop} {a0 : Act} {id : Nat} {l : List Oper} {w : World} (S : Nat → Value → World → Prop) (hm : Try.prog.follows .mixedOrders = true) (hd : depsOk l.toArray a0.tmps.size = true)
    (hst : ∀ t v w w', S t v w → Ext w w' → S t v w')
    (h0 : ∀ t, (∀ o ∈ l, o.dst ≠ some t) → S t (a0.tmps.getD t undef) w)
    (hop : ∀ o ∈ l, ROpG l.toArray Q S w o)
    (hend : ∀ (v : Nat → Value) (w' : World), Ext w w' → (∀ t, (∃ o ∈ l, o.dst = some t) → S t (v t) w') → Q .normal { tmps := fill l v a0.tmps, defers := a0.defers } w') :
    (Code.region id l.toArray true).wp Try.prog Q a0 w := by
  refine wp_region_invG (fun t v w' => S t v w' ∧ ((∀ o ∈ l, o.dst ≠ some t) → v = a0.tmps.getD t undef)) hm hd (fun t v w1 w2 h hx => ⟨hst t v w1 w2 h.1 hx, h.2⟩) (fun t ht => ⟨h0 t ht, fun _ => rfl⟩) (fun o ho => ?_) (fun a w' hx hdef hsz hS => ?_)
  · intro a w1 hx hl
    rcases hop o ho a w1 hx (fun t ht => (hl t ht).1) with ⟨h1, h2⟩ | ⟨h1, h2⟩
    · exact Or.inl ⟨h1, Oper.wp_mono (fun a' w' ⟨v, e, hv, hw⟩ => ⟨v, e, fun t ht => ⟨hv t ht, fun hn => absurd ht (hn o ho)⟩, hw⟩) h2⟩
    · exact Or.inr ⟨h1, fun t ht => ⟨h2 t ht, fun hn => absurd ht (hn o ho)⟩⟩
  · have e : a = { tmps := fill l (fun t => a.tmps.getD t undef) a0.tmps, defers := a0.defers } := by
      have et : a.tmps = fill l (fun t => a.tmps.getD t undef) a0.tmps := by
        apply Array.ext
        · rw [fill_size, hsz]
        · intro i h1 h2
          have key : (fill l (fun t => a.tmps.getD t undef) a0.tmps)[i]? = some a.tmps[i] := by
            by_cases hw : ∃ o ∈ l, o.dst = some i
            · rw [fill_on _ l _ hw (by rw [← hsz]; exact h1)]
              simp [Array.getD, h1]
            · have hn : ∀ o ∈ l, o.dst ≠ some i := fun o ho he => hw ⟨o, ho, he⟩
              rw [fill_off _ l _ hn]
              have h3 : i < a0.tmps.size := by rw [← hsz]; exact h1
              have h4 := (hS i).2 hn
              simp only [Array.getD, h1, h3, dif_pos] at h4
              rw [Array.getElem?_eq_getElem h3]
              simpa using h4.symm
          have := (Array.getElem?_eq_some_iff.1 key).2
          exact this.symm
      cases a
      simp only at et hdef
      rw [← et, hdef]
    have := hend (fun t => a.tmps.getD t undef) w' hx (fun t _ => (hS t).1)
    rw [e]
    exact this
end Go.Proofs.Ytbkimfefbdfkbaa
