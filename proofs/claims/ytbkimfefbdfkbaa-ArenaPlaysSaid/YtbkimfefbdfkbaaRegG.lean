/- A region that draws its order and holds guards: each operation is looked at once, wanted or not. -/
import Derived.Test.YtbkimfefbdfkbaaRegInv
set_option maxRecDepth 100000
namespace Go.Proofs.Ytbkimfefbdfkbaa
open Go.RowKit

section
variable {ops : Array Oper} {Q : Exit → Act → World → Prop} {S : Nat → Value → World → Prop} {w0 : World} {a0 : Act}
/-- What is asked of one operation: it is wanted, or it is not. -/
def ROpG (ops : Array Oper) (Q : Exit → Act → World → Prop) (S : Nat → Value → World → Prop) (w0 : World) (o : Oper) : Prop :=
  ∀ (a : Act) (w : World), Ext w0 w → (∀ t ∈ o.looksAt ops, S t (a.tmps.getD t undef) w) →
    (Region.wanted o (yielded ops a.tmps) = true ∧ o.wp Try.prog a w (fun a' w' => ∃ v, a' = a.put o.dst v ∧ (∀ t, o.dst = some t → S t v w') ∧ Ext w w') Q) ∨
    (Region.wanted o (yielded ops a.tmps) = false ∧ ∀ t, o.dst = some t → S t undef w)

theorem rinv_anyG (hd : depsOk ops a0.tmps.size = true) (hst : ∀ t v w w', S t v w → Ext w w' → S t v w') (hop : ∀ o ∈ ops.toList, ROpG ops Q S w0 o)
    (hend : ∀ a w, Ext w0 w → a.defers = a0.defers → a.tmps.size = a0.tmps.size → (∀ t, S t (a.tmps.getD t undef) w) → Q .normal a w) :
    ∀ (fuel : Nat) (listed : Array Bool) (a : Act) (w : World), listed.size = ops.size → cntT listed + fuel = ops.size → RInv ops S w0 a0 listed a w → wpAny Try.prog .any ops Q fuel listed a w
  | 0, listed, a, w, hs, hc, hI => by
    have hall : ∀ i, i < ops.size → listed.getD i false = true := fun i hi => cntT_all (by omega) i (by omega)
    refine ⟨?_, hend a w hI.1 hI.2.1 hI.2.2.1 (fun t => hI.2.2.2 t (fun j o hj _ => hall j (Array.getElem?_eq_some_iff.1 hj).1))⟩
    rw [List.eq_nil_iff_forall_not_mem]
    intro i hi
    obtain ⟨h1, o, ho, _⟩ := mem_ready.1 hi
    have hlt := (Array.getElem?_eq_some_iff.1 ho).1
    have h2 := hall i hlt
    have hlt2 : i < listed.size := by omega
    simp [Array.getD, hlt2] at h1 h2
    rw [h1] at h2; cases h2
  | fuel + 1, listed, a, w, hs, hc, hI => by
    refine ⟨fun hr => ?_, fun i hi => ?_⟩
    · exfalso
      -- the first that has not come up may come up
      have key : ∀ n, n ≤ ops.size → ∀ i, i < n → listed.getD i false = true := by
        intro n
        induction n with
        | zero => intro _ i hi; omega
        | succ n ih =>
          intro hn i hi
          by_cases e : i < n
          · exact ih (by omega) i e
          · have e' : i = n := by omega
            subst e'
            have hlt : i < ops.size := by omega
            have hlt2 : i < listed.size := by omega
            cases hli : listed.getD i false with
            | true => rfl
            | false =>
              have ho : ops[i]? = some ops[i] := Array.getElem?_eq_getElem hlt
              have hm : i ∈ Region.ready .any ops listed := by
                refine mem_ready.2 ⟨?_, _, ho, fun e he hb => ih (by omega) _ ((depsOk_at hd ho).1 e he hb)⟩
                simp [Array.getD, hlt2] at hli ⊢; exact hli
              rw [hr] at hm; cases hm
      have hcnt : cntT listed = listed.size := by
        unfold cntT
        have e : listed.size = listed.toList.length := by simp
        rw [e, List.count_eq_length]
        intro b hb
        obtain ⟨i, hi, rfl⟩ := List.mem_iff_getElem.1 hb
        have hi' : i < listed.size := by simpa using hi
        have := key ops.size (Nat.le_refl _) i (by omega)
        simp [Array.getD, hi'] at this
        simp [this]
      omega
    · obtain ⟨h1, o, ho, hw⟩ := mem_ready.1 hi
      obtain ⟨d1, d2, d3⟩ := depsOk_at hd ho
      have hmem : o ∈ ops.toList := by
        have := List.mem_of_getElem? (l := ops.toList) (i := i) (a := o) (by simpa using ho)
        exact this
      have hl : ∀ t ∈ o.looksAt ops, S t (a.tmps.getD t undef) w := fun t ht => hI.2.2.2 t (fun j p hj hp => by
        obtain ⟨e, he, hb, hon⟩ := (d3 j p t hj hp).1 ht
        rw [← hon]
        exact hw e he hb)
      have next : ∀ v w', (∀ t, o.dst = some t → S t v w') → Ext w w' → wpAny Try.prog .any ops Q fuel (listed.setIfInBounds i true) (a.put o.dst v) w' := fun v w' hS hx => by
        refine rinv_anyG hd hst hop hend fuel _ _ _ (by rw [Array.size_setIfInBounds]; exact hs) (by rw [cntT_set h1]; omega) ⟨hI.1.trans hx, ?_, ?_, fun t ht => ?_⟩
        · rw [← hI.2.1]; unfold Act.put; split <;> rfl
        · rw [← hI.2.2.1]; unfold Act.put; split
          · exact Array.size_setIfInBounds ..
          · rfl
        · cases hdst : o.dst with
          | none =>
            show S t (a.tmps.getD t undef) w'
            refine hst t _ w w' (hI.2.2.2 t (fun j p hj hp => ?_)) hx
            have := ht j p hj hp
            by_cases e : i = j
            · subst e; rw [ho] at hj; cases hj; rw [hdst] at hp; cases hp
            · rwa [getD_set_ne false e] at this
          | some d =>
            have hdl : d < a.tmps.size := by rw [hI.2.2.1]; exact d2 d hdst
            rw [getD_put hdl]
            by_cases e : t = d
            · rw [if_pos e, e]; exact hS d hdst
            · rw [if_neg e]
              refine hst t _ w w' (hI.2.2.2 t (fun j p hj hp => ?_)) hx
              have := ht j p hj hp
              by_cases e2 : i = j
              · subst e2; rw [ho] at hj; cases hj; rw [hdst] at hp; cases hp; exact absurd rfl e
              · rwa [getD_set_ne false e2] at this
      unfold wpOp
      simp only [ho]
      rcases hop o hmem a w hI.1 hl with ⟨hwant, hwp⟩ | ⟨hwant, hS⟩
      · rw [if_pos hwant]
        exact Or.inl (Oper.wp_mono (fun a' w' ⟨v, ha, hS, hx⟩ => by subst ha; exact next v w' hS hx) hwp)
      · rw [if_neg (by simp [hwant])]
        exact next undef w hS (Ext.refl w)

/-- **The region's law.** -/
theorem wp_region_invG {id : Nat} {l : List Oper} {w : World} (S : Nat → Value → World → Prop) (hm : Try.prog.follows .mixedOrders = true) (hd : depsOk l.toArray a0.tmps.size = true)
    (hst : ∀ t v w w', S t v w → Ext w w' → S t v w')
    (h0 : ∀ t, (∀ o ∈ l, o.dst ≠ some t) → S t (a0.tmps.getD t undef) w)
    (hop : ∀ o ∈ l, ROpG l.toArray Q S w o)
    (hend : ∀ a w', Ext w w' → a.defers = a0.defers → a.tmps.size = a0.tmps.size → (∀ t, S t (a.tmps.getD t undef) w') → Q .normal a w') :
    (Code.region id l.toArray true).wp Try.prog Q a0 w := by
  refine wp_region_any hm (rinv_anyG (S := S) (w0 := w) (a0 := a0) hd hst (by simpa using hop) hend _ _ _ _ (by simp) ?_ ⟨(Ext.refl w).drew, rfl, rfl, fun t ht => ?_⟩)
  · simp [cntT, List.count_replicate]
  · refine hst t _ w _ (h0 t (fun o ho he => ?_)) (Ext.refl w).drew
    obtain ⟨j, hj⟩ := List.mem_iff_getElem?.1 ho
    have := ht j o (by simpa using hj) he
    have hlt : j < l.length := (List.getElem?_eq_some_iff.1 hj).1
    simp [Array.getD, hlt] at this

/-- An operation that comes up: the slots that it needs, and its guard. -/
theorem rop_on {o : Oper} (need : List Nat) (h1 : (need.all fun t => (o.looksAt ops).contains t) = true)
    (g : Option (Nat × Bool)) (hg : (match o.guard with | none => true | some (j, b) => (match g with | some (k, b') => b == b' && need.contains k && ((ops[j]?).bind (·.dst) == some k) | none => false)) = true)
    (hgt : ∀ k b, g = some (k, b) → ∀ v w, S k v w → v = .bool b)
    (h : ∀ (K : Act → World → Prop) (a : Act) (w : World), (∀ v w', (∀ t, o.dst = some t → S t v w') → Ext w w' → K (a.put o.dst v) w') → Ext w0 w → (∀ t ∈ need, S t (a.tmps.getD t undef) w) → o.wp Try.prog a w K Q) : ROpG ops Q S w0 o := by
  intro a w hx hl
  have hn : ∀ t ∈ need, S t (a.tmps.getD t undef) w := fun t ht => hl t (by have := (List.all_eq_true.1 h1) t ht; simpa using this)
  refine Or.inl ⟨?_, h _ a w (fun v w' hS hw => ⟨v, rfl, hS, hw⟩) hx hn⟩
  unfold Region.wanted
  cases hgd : o.guard with
  | none => rfl
  | some p =>
    obtain ⟨j, b⟩ := p
    rw [hgd] at hg
    cases g with
    | none => simp at hg
    | some q =>
      obtain ⟨k, b'⟩ := q
      simp only [Bool.and_eq_true, beq_iff_eq] at hg
      obtain ⟨⟨rfl, hk⟩, hd⟩ := hg
      have hv := hgt k b rfl _ _ (hn k (by simpa using hk))
      show (yielded ops a.tmps j == some b) = true
      unfold yielded
      rw [hd]
      show ((match a.tmps[k]? with | some (.bool b) => some b | _ => none) == some b) = true
      rw [getD_some hv]
      simp
/-- An operation that does not. -/
theorem rop_off {o : Oper} (k j : Nat) (b : Bool) (ho : o.guard = some (j, b)) (hd : (ops[j]?).bind (·.dst) = some k) (hk : (o.looksAt ops).contains k = true)
    (hgt : ∀ v w, S k v w → v ≠ .bool b) (hS : ∀ t w, o.dst = some t → S t undef w) : ROpG ops Q S w0 o := by
  intro a w hx hl
  refine Or.inr ⟨?_, fun t ht => hS t w ht⟩
  have hv := hgt _ _ (hl k (by simpa using hk))
  unfold Region.wanted
  rw [ho]
  show (yielded ops a.tmps j == some b) = false
  unfold yielded
  rw [hd]
  show ((match a.tmps[k]? with | some (.bool b) => some b | _ => none) == some b) = false
  cases e : a.tmps[k]? with
  | none => rfl
  | some v =>
    have hg : a.tmps.getD k undef = v := by
      have hlt := (Array.getElem?_eq_some_iff.1 e).1
      have := (Array.getElem?_eq_some_iff.1 e).2
      simp [Array.getD, hlt, this]
    rw [hg] at hv
    cases v <;> first | rfl | (rename_i x; cases x <;> cases b <;> first | rfl | exact absurd rfl hv)
end
theorem spec_none {base reg : List (Nat × Spec)} {t : Nat} {v : Value} {w : World} (h1 : base.lookup t = none) (h2 : reg.lookup t = none) : SpecS base reg t v w :=
  ⟨(fun x hx => by rw [h1] at hx; cases hx), (fun x hx => by rw [h2] at hx; cases hx)⟩
end Go.Proofs.Ytbkimfefbdfkbaa
