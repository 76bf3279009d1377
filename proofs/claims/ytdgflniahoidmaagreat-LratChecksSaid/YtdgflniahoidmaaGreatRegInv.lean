/- A region that draws its order, by what holds of each slot: each operation is looked at once, whatever the order; memory only grows. -/
import Derived.Test.YtdgflniahoidmaaGreatSl
import Derived.Orders
set_option maxRecDepth 100000
namespace Go.Proofs.YtdgflniahoidmaaGreat
open Go.RowKit

/-- Who waits for whom: every operation that looks at a slot waits for whoever writes it, all wait for earlier ones only, and each slot is written once, within the frame. -/
def depsOk (ops : Array Oper) (sz : Nat) : Bool :=
  (List.range ops.size).all fun i => match ops[i]? with
    | none => true
    | some o => (o.after.all fun e => !Region.binds .any e || decide (e.on < i)) &&
        (match o.dst with | none => true | some t => decide (t < sz)) &&
        (List.range ops.size).all fun j => match ops[j]? with
          | none => true
          | some p => match p.dst with
            | none => true
            | some t => (!(o.looksAt ops).contains t || o.after.any fun e => Region.binds .any e && e.on == j) && (decide (i = j) || o.dst != some t)

theorem depsOk_at {ops : Array Oper} {sz i : Nat} {o : Oper} (h : depsOk ops sz = true) (hi : ops[i]? = some o) :
    (∀ e ∈ o.after, Region.binds .any e = true → e.on < i) ∧ (∀ t, o.dst = some t → t < sz) ∧
    (∀ j p t, ops[j]? = some p → p.dst = some t → (t ∈ o.looksAt ops → ∃ e ∈ o.after, Region.binds .any e = true ∧ e.on = j) ∧ (o.dst = some t → i = j)) := by
  unfold depsOk at h
  rw [List.all_eq_true] at h
  have hlt : i < ops.size := (Array.getElem?_eq_some_iff.1 hi).1
  have h1 := h i (List.mem_range.2 hlt)
  simp only [hi, Bool.and_eq_true] at h1
  obtain ⟨⟨g1, g2⟩, g3⟩ := h1
  refine ⟨fun e he hb => ?_, fun t ht => ?_, fun j p t hj hp => ?_⟩
  · have := (Array.all_eq_true_iff_forall_mem.1 g1) e he
    simpa [hb] using this
  · rw [ht] at g2; simpa using g2
  · rw [List.all_eq_true] at g3
    have hjt : j < ops.size := (Array.getElem?_eq_some_iff.1 hj).1
    have := g3 j (List.mem_range.2 hjt)
    simp only [hj, hp, Bool.and_eq_true] at this
    obtain ⟨k1, k2⟩ := this
    refine ⟨fun hl => ?_, fun hd => ?_⟩
    · have hc : (o.looksAt ops).contains t = true := by simpa using hl
      rw [hc] at k1
      simp only [Bool.not_true, Bool.false_or] at k1
      rw [Array.any_eq_true] at k1
      obtain ⟨x, hx, hb⟩ := k1
      simp only [Bool.and_eq_true, beq_iff_eq] at hb
      exact ⟨_, Array.getElem_mem hx, hb.1, hb.2⟩
    · rw [hd] at k2
      simpa using k2

def cntT (l : Array Bool) : Nat := l.toList.count true
theorem cntT_set {l : Array Bool} {i : Nat} (h : l.getD i true = false) : cntT (l.setIfInBounds i true) = cntT l + 1 := by
  have hi : i < l.size := by
    rcases Nat.lt_or_ge i l.size with h1 | h1
    · exact h1
    · simp [Array.getD, Nat.not_lt.2 h1] at h
  have hf : l[i] = false := by simpa [Array.getD, hi] using h
  unfold cntT
  obtain ⟨l⟩ := l
  simp only [List.setIfInBounds_toArray] at *
  simp only [List.size_toArray, List.getElem_toArray] at hi hf
  clear h
  induction l generalizing i with
  | nil => simp at hi
  | cons b l ih =>
    cases i with
    | zero => simp at hf; subst hf; simp
    | succ i =>
      simp only [List.length_cons] at hi
      simp only [List.getElem_cons_succ] at hf
      have := ih (i := i) (by simp; omega) hf
      simp only [List.set_cons_succ, List.count_cons]
      omega
theorem cntT_all {l : Array Bool} (h : cntT l = l.size) (i : Nat) (hi : i < l.size) : l.getD i false = true := by
  obtain ⟨l⟩ := l
  unfold cntT at h
  simp only [List.size_toArray] at h hi
  have := List.count_eq_length.1 h
  have h2 := this l[i] (List.getElem_mem hi)
  simp [Array.getD, hi, ← h2]

section
variable {ops : Array Oper} {Q : Exit → Act → World → Prop} {S : Nat → Value → World → Prop} {w0 : World} {a0 : Act}
/-- What holds on the way. -/
def RInv (ops : Array Oper) (S : Nat → Value → World → Prop) (w0 : World) (a0 : Act) (listed : Array Bool) (a : Act) (w : World) : Prop :=
  Ext w0 w ∧ a.defers = a0.defers ∧ a.tmps.size = a0.tmps.size ∧ ∀ t, (∀ j o, ops[j]? = some o → o.dst = some t → listed.getD j false = true) → S t (a.tmps.getD t undef) w
/-- What is asked of one operation. -/
def ROp (ops : Array Oper) (Q : Exit → Act → World → Prop) (S : Nat → Value → World → Prop) (w0 : World) (o : Oper) : Prop :=
  ∀ (a : Act) (w : World), Ext w0 w → (∀ t ∈ o.looksAt ops, S t (a.tmps.getD t undef) w) →
    Region.wanted o (yielded ops a.tmps) = true ∧ o.wp Tryz.prog a w (fun a' w' => ∃ v, a' = a.put o.dst v ∧ (∀ t, o.dst = some t → S t v w') ∧ Ext w w') Q

theorem getD_put {a : Act} {d t : Nat} {v : Value} (hd : d < a.tmps.size) : (a.put (some d) v).tmps.getD t undef = if t = d then v else a.tmps.getD t undef := by
  show (a.tmps.setIfInBounds d v).getD t undef = _
  by_cases e : t = d
  · subst e; simp [Array.getD, hd]
  · rw [if_neg e]
    simp only [Array.getD]
    by_cases h : t < a.tmps.size
    · simp [h, Ne.symm e]
    · simp [h]

theorem rinv_any (hd : depsOk ops a0.tmps.size = true) (hst : ∀ t v w w', S t v w → Ext w w' → S t v w') (hop : ∀ o ∈ ops.toList, ROp ops Q S w0 o)
    (hend : ∀ a w, Ext w0 w → a.defers = a0.defers → a.tmps.size = a0.tmps.size → (∀ t, S t (a.tmps.getD t undef) w) → Q .normal a w) :
    ∀ (fuel : Nat) (listed : Array Bool) (a : Act) (w : World), listed.size = ops.size → cntT listed + fuel = ops.size → RInv ops S w0 a0 listed a w → wpAny Tryz.prog .any ops Q fuel listed a w
  | 0, listed, a, w, hs, hc, hI => by
    have hall : ∀ i, i < ops.size → listed.getD i false = true := fun i hi => cntT_all (by omega) i (by omega)
    refine ⟨?_, hend a w hI.1 hI.2.1 hI.2.2.1 (fun t => hI.2.2.2 t (fun j o hj _ => hall j (Array.getElem?_eq_some_iff.1 hj).1))⟩
    rw [List.eq_nil_iff_forall_not_mem]
    intro i hi
    obtain ⟨h1, o, ho, _⟩ := mem_ready.1 hi
    have hlt := (Array.getElem?_eq_some_iff.1 ho).1
    have h2 := hall i hlt
    have hlt2 : i < listed.size := by omega
    simp [Array.getD, hlt2] at h1 h2
    rw [h1] at h2; cases h2
  | fuel + 1, listed, a, w, hs, hc, hI => by
    refine ⟨fun hr => ?_, fun i hi => ?_⟩
    · exfalso
      -- the first that has not come up may come up
      have key : ∀ n, n ≤ ops.size → ∀ i, i < n → listed.getD i false = true := by
        intro n
        induction n with
        | zero => intro _ i hi; omega
        | succ n ih =>
          intro hn i hi
          by_cases e : i < n
          · exact ih (by omega) i e
          · have e' : i = n := by omega
            subst e'
            have hlt : i < ops.size := by omega
            have hlt2 : i < listed.size := by omega
            cases hli : listed.getD i false with
            | true => rfl
            | false =>
              have ho : ops[i]? = some ops[i] := Array.getElem?_eq_getElem hlt
              have hm : i ∈ Region.ready .any ops listed := by
                refine mem_ready.2 ⟨?_, _, ho, fun e he hb => ih (by omega) _ ((depsOk_at hd ho).1 e he hb)⟩
                simp [Array.getD, hlt2] at hli ⊢; exact hli
              rw [hr] at hm; cases hm
      have hcnt : cntT listed = listed.size := by
        unfold cntT
        have e : listed.size = listed.toList.length := by simp
        rw [e, List.count_eq_length]
        intro b hb
        obtain ⟨i, hi, rfl⟩ := List.mem_iff_getElem.1 hb
        have hi' : i < listed.size := by simpa using hi
        have := key ops.size (Nat.le_refl _) i (by omega)
        simp [Array.getD, hi'] at this
        simp [this]
      omega
    · obtain ⟨h1, o, ho, hw⟩ := mem_ready.1 hi
      obtain ⟨d1, d2, d3⟩ := depsOk_at hd ho
      have hmem : o ∈ ops.toList := by
        have := List.mem_of_getElem? (l := ops.toList) (i := i) (a := o) (by simpa using ho)
        exact this
      have hl : ∀ t ∈ o.looksAt ops, S t (a.tmps.getD t undef) w := fun t ht => hI.2.2.2 t (fun j p hj hp => by
        obtain ⟨e, he, hb, hon⟩ := (d3 j p t hj hp).1 ht
        rw [← hon]
        exact hw e he hb)
      obtain ⟨hwant, hwp⟩ := hop o hmem a w hI.1 hl
      unfold wpOp
      simp only [ho, hwant, if_true]
      refine Or.inl (Oper.wp_mono (fun a' w' ⟨v, ha, hS, hx⟩ => ?_) hwp)
      subst ha
      refine rinv_any hd hst hop hend fuel _ _ _ (by rw [Array.size_setIfInBounds]; exact hs) (by rw [cntT_set h1]; omega) ⟨hI.1.trans hx, ?_, ?_, fun t ht => ?_⟩
      · rw [← hI.2.1]; unfold Act.put; split <;> rfl
      · rw [← hI.2.2.1]; unfold Act.put; split
        · exact Array.size_setIfInBounds ..
        · rfl
      · cases hdst : o.dst with
        | none =>
          show S t (a.tmps.getD t undef) w'
          refine hst t _ w w' (hI.2.2.2 t (fun j p hj hp => ?_)) hx
          have := ht j p hj hp
          by_cases e : i = j
          · subst e; rw [ho] at hj; cases hj; rw [hdst] at hp; cases hp
          · rwa [getD_set_ne false e] at this
        | some d =>
          have hdl : d < a.tmps.size := by rw [hI.2.2.1]; exact d2 d hdst
          rw [getD_put hdl]
          by_cases e : t = d
          · rw [if_pos e, e]; exact hS d hdst
          · rw [if_neg e]
            refine hst t _ w w' (hI.2.2.2 t (fun j p hj hp => ?_)) hx
            have := ht j p hj hp
            by_cases e2 : i = j
            · subst e2; rw [ho] at hj; cases hj; rw [hdst] at hp; cases hp; exact absurd rfl e
            · rwa [getD_set_ne false e2] at this

/-- **The region's law.** -/
theorem wp_region_inv {id : Nat} {l : List Oper} {w : World} (S : Nat → Value → World → Prop) (hm : Tryz.prog.follows .mixedOrders = true) (hd : depsOk l.toArray a0.tmps.size = true)
    (hst : ∀ t v w w', S t v w → Ext w w' → S t v w')
    (h0 : ∀ t, (∀ o ∈ l, o.dst ≠ some t) → S t (a0.tmps.getD t undef) w)
    (hop : ∀ o ∈ l, ROp l.toArray Q S w o)
    (hend : ∀ a w', Ext w w' → a.defers = a0.defers → a.tmps.size = a0.tmps.size → (∀ t, S t (a.tmps.getD t undef) w') → Q .normal a w') :
    (Code.region id l.toArray true).wp Tryz.prog Q a0 w := by
  refine wp_region_any hm (rinv_any (S := S) (w0 := w) (a0 := a0) hd hst (by simpa using hop) hend _ _ _ _ (by simp) ?_ ⟨(Ext.refl w).drew, rfl, rfl, fun t ht => ?_⟩)
  · simp [cntT, List.count_replicate]
  · refine hst t _ w _ (h0 t (fun o ho he => ?_)) (Ext.refl w).drew
    obtain ⟨j, hj⟩ := List.mem_iff_getElem?.1 ho
    have := ht j o (by simpa using hj) he
    have hlt : j < l.length := (List.getElem?_eq_some_iff.1 hj).1
    simp [Array.getD, hlt] at this

/-- What is known of a slot. -/
inductive Spec
  | val (v : Value)
  | form (v : Int) (L : List (List Int))
  | ints (xs : List Int)
  | bools (xs : List Bool)
  | rows (L : List (List Int))
  | any (p : Value → World → Prop) (hp : ∀ v w w', p v w → Ext w w' → p v w')
def Spec.holds : Spec → Value → World → Prop
  | .val u, v, _ => v = u
  | .form x L, v, w => ∃ A n c, v = .agg #[.int .i64 x, .slice A n c] ∧ RowsSl w A n L
  | .ints xs, v, w => ∃ A n c, v = .slice A n c ∧ IntSl w A n xs
  | .bools xs, v, w => ∃ A n c, v = .slice A n c ∧ BoolSl w A n xs
  | .rows L, v, w => ∃ A n c, v = .slice A n c ∧ RowsSl w A n L ∧ n ≤ c
  | .any p _, v, w => p v w
theorem Spec.ext {s : Spec} {v : Value} {w w' : World} (h : s.holds v w) (hx : Ext w w') : s.holds v w' := by
  cases s with
  | val u => exact h
  | form x L => obtain ⟨A, n, c, h1, h2⟩ := h; exact ⟨A, n, c, h1, h2.ext hx⟩
  | ints xs => obtain ⟨A, n, c, h1, h2⟩ := h; exact ⟨A, n, c, h1, h2.ext hx⟩
  | bools xs => obtain ⟨A, n, c, h1, h2⟩ := h; exact ⟨A, n, c, h1, h2.ext hx⟩
  | rows L => obtain ⟨A, n, c, h1, h2, h3⟩ := h; exact ⟨A, n, c, h1, h2.ext hx, h3⟩
  | any p hp => exact hp _ _ _ h hx
/-- All that is known: of the slots ahead of the region, and of those that it writes. -/
def SpecS (base reg : List (Nat × Spec)) (t : Nat) (v : Value) (w : World) : Prop := (∀ s, base.lookup t = some s → s.holds v w) ∧ (∀ s, reg.lookup t = some s → s.holds v w)
theorem SpecS.ext {base reg : List (Nat × Spec)} (t : Nat) (v : Value) (w w' : World) (h : SpecS base reg t v w) (hx : Ext w w') : SpecS base reg t v w' := ⟨fun s hs => Spec.ext (h.1 s hs) hx, fun s hs => Spec.ext (h.2 s hs) hx⟩
theorem SpecS.start {base reg : List (Nat × Spec)} {l : List Oper} {a : Act} {w : World} (hreg : (reg.all fun p => l.any fun o => o.dst == some p.1) = true) (hb : ∀ t s, base.lookup t = some s → s.holds (a.tmps.getD t undef) w) :
    ∀ t, (∀ o ∈ l, o.dst ≠ some t) → SpecS base reg t (a.tmps.getD t undef) w := by
  intro t ht
  refine ⟨fun s hs => hb t s hs, fun s hs => ?_⟩
  exfalso
  have hmem : ∀ {r : List (Nat × Spec)}, r.lookup t = some s → ∃ p ∈ r, p.1 = t := by
    intro r
    induction r with
    | nil => intro h; cases h
    | cons p r ih =>
      intro h
      obtain ⟨k, x⟩ := p
      rw [List.lookup_cons] at h
      by_cases e : t == k
      · exact ⟨_, List.mem_cons_self .., (beq_iff_eq.1 e).symm⟩
      · obtain ⟨p, hp, hq⟩ := ih (by simpa [e] using h)
        exact ⟨p, List.mem_cons_of_mem _ hp, hq⟩
  obtain ⟨p, hp, rfl⟩ := hmem hs
  have := (List.all_eq_true.1 hreg) p hp
  rw [List.any_eq_true] at this
  obtain ⟨o, ho, hd⟩ := this
  exact ht o ho (by simpa using hd)

theorem lookup_all {base : List (Nat × Spec)} {P : Nat → Spec → Prop} (h : ∀ p ∈ base, P p.1 p.2) : ∀ t s, base.lookup t = some s → P t s := by
  induction base with
  | nil => intro t s hs; cases hs
  | cons p r ih =>
    intro t s hs
    obtain ⟨k, x⟩ := p
    rw [List.lookup_cons] at hs
    by_cases e : t == k
    · have hx : x = s := by simpa [e] using hs
      rw [beq_iff_eq.1 e, ← hx]
      exact h _ (List.mem_cons_self ..)
    · exact ih (fun p hp => h p (List.mem_cons_of_mem _ hp)) t s (by simpa [e] using hs)
theorem getD_some {t : Array Value} {k : Nat} {b : Bool} (h : t.getD k undef = .bool b) : t[k]? = some (.bool b) := by
  by_cases hk : k < t.size
  · simp [Array.getD, hk] at h; simp [hk, h]
  · simp [Array.getD, hk] at h; cases h
/-- One operation: the slots that it needs; its guard is true. -/
theorem rop_of {ops : Array Oper} {Q : Exit → Act → World → Prop} {S : Nat → Value → World → Prop} {w0 : World} {o : Oper} (need : List Nat) (h1 : (need.all fun t => (o.looksAt ops).contains t) = true)
    (g : Option Nat) (hg : (match o.guard with | none => true | some (j, b) => b && (match g with | some k => need.contains k && ((ops[j]?).bind (·.dst) == some k) | none => false)) = true)
    (hgt : ∀ k, g = some k → ∀ v w, S k v w → v = .bool true)
    (h : ∀ (K : Act → World → Prop) (a : Act) (w : World), (∀ v w', (∀ t, o.dst = some t → S t v w') → Ext w w' → K (a.put o.dst v) w') → Ext w0 w → (∀ t ∈ need, S t (a.tmps.getD t undef) w) → o.wp Tryz.prog a w K Q) : ROp ops Q S w0 o := by
  intro a w hx hl
  have hn : ∀ t ∈ need, S t (a.tmps.getD t undef) w := fun t ht => hl t (by have := (List.all_eq_true.1 h1) t ht; simpa using this)
  refine ⟨?_, h _ a w (fun v w' hS hw => ⟨v, rfl, hS, hw⟩) hx hn⟩
  unfold Region.wanted
  cases hgd : o.guard with
  | none => rfl
  | some p =>
    obtain ⟨j, b⟩ := p
    rw [hgd] at hg
    cases g with
    | none => simp at hg
    | some k =>
      simp only [Bool.and_eq_true] at hg
      obtain ⟨hb, hk, hd⟩ := hg
      subst hb
      have hd' : (ops[j]?).bind (·.dst) = some k := by simpa using hd
      have hv := hgt k rfl _ _ (hn k (by simpa using hk))
      show (yielded ops a.tmps j == some true) = true
      unfold yielded
      rw [hd']
      show ((match a.tmps[k]? with | some (.bool b) => some b | _ => none) == some true) = true
      rw [getD_some hv]
      rfl
end
theorem rop_val {o : Oper} {a : Act} {w : World} {v : Value} {K : Act → World → Prop} {Q : Exit → Act → World → Prop} (hrun : (execOp a.eval o).run Tryz.prog w = .ok (.value v) w) (hK : K (a.put o.dst v) w) : o.wp Tryz.prog a w K Q := by
  unfold Oper.wp; rw [hrun]; exact hK
theorem rop_val2 {o : Oper} {a : Act} {w w' : World} {v : Value} {K : Act → World → Prop} {Q : Exit → Act → World → Prop} (hrun : (execOp a.eval o).run Tryz.prog w = .ok (.value v) w') (hK : K (a.put o.dst v) w') : o.wp Tryz.prog a w K Q := by
  unfold Oper.wp; rw [hrun]; exact hK
theorem spec_new {base reg : List (Nat × Spec)} {t : Nat} {s : Spec} {v : Value} {w : World} (h1 : base.lookup t = none) (h2 : reg.lookup t = some s) (h : s.holds v w) : SpecS base reg t v w :=
  ⟨(fun x hx => by rw [h1] at hx; cases hx), (fun x hx => by rw [h2] at hx; cases hx; exact h)⟩
end Go.Proofs.YtdgflniahoidmaaGreat
