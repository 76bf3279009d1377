/- A region that draws its order, of which the last operation (a store) waits for all others. -/
import Derived.Test.YtbkimfefbdfkbaaRegF
set_option maxRecDepth 100000
namespace Go.Proofs.Ytbkimfefbdfkbaa
open Go.RowKit

/-- Each operation but the last is waited for by a later one. -/
def coversB (ops : Array Oper) : Bool :=
  (List.range (ops.size - 1)).all fun j => (List.range ops.size).any fun i => decide (j < i) && match ops[i]? with | some o => o.after.any fun e => Region.binds .any e && e.on == j | none => false
def closedL (ops : Array Oper) (listed : Array Bool) : Prop := ∀ (i : Nat) (o : Oper), ops[i]? = some o → listed.getD i false = true → ∀ e ∈ o.after, Region.binds .any e = true → listed.getD e.on false = true
theorem covers_all {ops : Array Oper} {listed : Array Bool} {m : Nat} {s : Oper} (hc : coversB ops = true) (hm : ops[m]? = some s) (hsz : m + 1 = ops.size) (hcl : closedL ops listed) (hr : ∀ e ∈ s.after, Region.binds .any e = true → listed.getD e.on false = true) : ∀ j, j < m → listed.getD j false = true := by
  have key : ∀ d j, j < m → m - j ≤ d → listed.getD j false = true := by
    intro d
    induction d with
    | zero => intro j h1 h2; omega
    | succ d ih =>
      intro j h1 h2
      unfold coversB at hc
      rw [List.all_eq_true] at hc
      have h3 := hc j (List.mem_range.2 (by omega))
      rw [List.any_eq_true] at h3
      obtain ⟨i, hi, h4⟩ := h3
      simp only [Bool.and_eq_true, decide_eq_true_eq] at h4
      obtain ⟨hji, h5⟩ := h4
      have hil := List.mem_range.1 hi
      have ho : ops[i]? = some ops[i] := Array.getElem?_eq_getElem hil
      rw [ho] at h5
      simp only at h5
      rw [Array.any_eq_true] at h5
      obtain ⟨x, hx, hb⟩ := h5
      simp only [Bool.and_eq_true, beq_iff_eq] at hb
      have hmem := Array.getElem_mem hx
      by_cases him : i = m
      · subst him
        rw [ho] at hm; cases hm
        have := hr _ hmem hb.1
        rwa [hb.2] at this
      · have hli := ih i (by omega) (by omega)
        have := hcl i _ ho hli _ hmem hb.1
        rwa [hb.2] at this
  exact fun j hj => key m j hj (by omega)

theorem closed_set {ops : Array Oper} {listed : Array Bool} {i : Nat} {o : Oper} (hcl : closedL ops listed) (ho : ops[i]? = some o) (hi : i < listed.size) (hw : ∀ e ∈ o.after, Region.binds .any e = true → listed.getD e.on false = true) : closedL ops (listed.setIfInBounds i true) := by
  have up : ∀ j, listed.getD j false = true → (listed.setIfInBounds i true).getD j false = true := fun j hj => by
    by_cases e : i = j
    · subst e; simp [Array.getD, hi]
    · rw [getD_set_ne false e]; exact hj
  intro k p hk hl e he hb
  by_cases ek : i = k
  · subst ek
    rw [ho] at hk; cases hk
    exact up _ (hw e he hb)
  · rw [getD_set_ne false ek] at hl
    exact up _ (hcl k p hk hl e he hb)

section
variable {ops : Array Oper} {Q : Exit → Act → World → Prop} {S : Nat → Value → World → Prop} {w0 : World} {a0 : Act}
theorem rinv_anyL {m : Nat} {s : Oper} (hd : depsOk ops a0.tmps.size = true) (hc : coversB ops = true) (hm : ops[m]? = some s) (hsz : m + 1 = ops.size) (hg : s.guard = none) (hds : s.dst = none) (hst : ∀ t v w w', S t v w → Ext w w' → S t v w') (hop : ∀ (i : Nat) (o : Oper), ops[i]? = some o → i ≠ m → ROpG ops Q S w0 o)
    (hend : ∀ a w, Ext w0 w → a.defers = a0.defers → a.tmps.size = a0.tmps.size → (∀ t, S t (a.tmps.getD t undef) w) → s.wp Try.prog a w (fun a' w' => Q .normal a' w') Q) :
    ∀ (fuel : Nat) (listed : Array Bool) (a : Act) (w : World), listed.size = ops.size → cntT listed + fuel = ops.size → listed.getD m false = false → closedL ops listed → RInv ops S w0 a0 listed a w → wpAny Try.prog .any ops Q fuel listed a w
  | 0, listed, a, w, hs, hcn, hml, hcl, hI => by
    have := cntT_all (l := listed) (by omega) m (by omega)
    rw [hml] at this; cases this
  | fuel + 1, listed, a, w, hs, hcn, hml, hcl, hI => by
    refine ⟨fun hr => ?_, fun i hi => ?_⟩
    · exfalso
      -- the first that has not come up may come up
      have key : ∀ n, n ≤ ops.size → ∀ i, i < n → listed.getD i false = true := by
        intro n
        induction n with
        | zero => intro _ i hi; omega
        | succ n ih =>
          intro hn i hi
          by_cases e : i < n
          · exact ih (by omega) i e
          · have e' : i = n := by omega
            subst e'
            have hlt : i < ops.size := by omega
            have hlt2 : i < listed.size := by omega
            cases hli : listed.getD i false with
            | true => rfl
            | false =>
              have ho : ops[i]? = some ops[i] := Array.getElem?_eq_getElem hlt
              have hm : i ∈ Region.ready .any ops listed := by
                refine mem_ready.2 ⟨?_, _, ho, fun e he hb => ih (by omega) _ ((depsOk_at hd ho).1 e he hb)⟩
                simp [Array.getD, hlt2] at hli ⊢; exact hli
              rw [hr] at hm; cases hm
      have hcnt : cntT listed = listed.size := by
        unfold cntT
        have e : listed.size = listed.toList.length := by simp
        rw [e, List.count_eq_length]
        intro b hb
        obtain ⟨i, hi, rfl⟩ := List.mem_iff_getElem.1 hb
        have hi' : i < listed.size := by simpa using hi
        have := key ops.size (Nat.le_refl _) i (by omega)
        simp [Array.getD, hi'] at this
        simp [this]
      omega
    · obtain ⟨h1, o, ho, hw⟩ := mem_ready.1 hi
      obtain ⟨d1, d2, d3⟩ := depsOk_at hd ho
      by_cases him : i = m
      · subst him
        rw [hm] at ho; cases ho
        have hall := covers_all hc hm hsz hcl hw
        have hw1 := hend a w hI.1 hI.2.1 hI.2.2.1 (fun t => hI.2.2.2 t (fun j o hj hdo => by
          by_cases e : j = i
          · subst e; rw [hm] at hj; cases hj; rw [hds] at hdo; cases hdo
          · exact hall j (by have := (Array.getElem?_eq_some_iff.1 hj).1; omega)))
        have hf : fuel = 0 := by
          have hcnt : cntT (listed.setIfInBounds i true) = ops.size := by
            have e2 : (listed.setIfInBounds i true).size = ops.size := by rw [Array.size_setIfInBounds]; exact hs
            unfold cntT
            have e : ops.size = (listed.setIfInBounds i true).toList.length := by rw [Array.length_toList]; exact e2.symm
            rw [e, List.count_eq_length]
            intro b hb
            obtain ⟨j, hj, rfl⟩ := List.mem_iff_getElem.1 hb
            have hj' : j < listed.size := by simpa using hj
            by_cases e : i = j
            · subst e; simp
            · have h7 := hall j (by omega)
              simp [Array.getD, hj'] at h7
              simp [e, h7]
          rw [cntT_set h1] at hcnt
          omega
        subst hf
        unfold wpOp
        simp only [hm]
        rw [if_pos (by simp [Region.wanted, hg])]
        refine Or.inl ?_
        refine Oper.wp_mono (fun a' w' hq => ?_) hw1
        refine ⟨?_, hq⟩
        rw [List.eq_nil_iff_forall_not_mem]
        intro j hj
        obtain ⟨g1, o, ho, _⟩ := mem_ready.1 hj
        have hjl := (Array.getElem?_eq_some_iff.1 ho).1
        by_cases e : i = j
        · subst e
          have h9 : i < listed.size := by omega
          simp [Array.getD, h9] at g1
        · rw [getD_set_ne true e] at g1
          have h7 := hall j (by omega)
          have h9 : j < listed.size := by omega
          simp [Array.getD, h9] at g1 h7
          rw [g1] at h7; cases h7
      have hl : ∀ t ∈ o.looksAt ops, S t (a.tmps.getD t undef) w := fun t ht => hI.2.2.2 t (fun j p hj hp => by
        obtain ⟨e, he, hb, hon⟩ := (d3 j p t hj hp).1 ht
        rw [← hon]
        exact hw e he hb)
      have next : ∀ v w', (∀ t, o.dst = some t → S t v w') → Ext w w' → wpAny Try.prog .any ops Q fuel (listed.setIfInBounds i true) (a.put o.dst v) w' := fun v w' hS hx => by
        refine rinv_anyL hd hc hm hsz hg hds hst hop hend fuel _ _ _ (by rw [Array.size_setIfInBounds]; exact hs) (by rw [cntT_set h1]; omega) (by rw [getD_set_ne false him]; exact hml) (closed_set hcl ho (by have := (Array.getElem?_eq_some_iff.1 ho).1; omega) hw) ⟨hI.1.trans hx, ?_, ?_, fun t ht => ?_⟩
        · rw [← hI.2.1]; unfold Act.put; split <;> rfl
        · rw [← hI.2.2.1]; unfold Act.put; split
          · exact Array.size_setIfInBounds ..
          · rfl
        · cases hdst : o.dst with
          | none =>
            show S t (a.tmps.getD t undef) w'
            refine hst t _ w w' (hI.2.2.2 t (fun j p hj hp => ?_)) hx
            have := ht j p hj hp
            by_cases e : i = j
            · subst e; rw [ho] at hj; cases hj; rw [hdst] at hp; cases hp
            · rwa [getD_set_ne false e] at this
          | some d =>
            have hdl : d < a.tmps.size := by rw [hI.2.2.1]; exact d2 d hdst
            rw [getD_put hdl]
            by_cases e : t = d
            · rw [if_pos e, e]; exact hS d hdst
            · rw [if_neg e]
              refine hst t _ w w' (hI.2.2.2 t (fun j p hj hp => ?_)) hx
              have := ht j p hj hp
              by_cases e2 : i = j
              · subst e2; rw [ho] at hj; cases hj; rw [hdst] at hp; cases hp; exact absurd rfl e
              · rwa [getD_set_ne false e2] at this
      unfold wpOp
      simp only [ho]
      rcases hop i o ho him a w hI.1 hl with ⟨hwant, hwp⟩ | ⟨hwant, hS⟩
      · rw [if_pos hwant]
        exact Or.inl (Oper.wp_mono (fun a' w' ⟨v, ha, hS, hx⟩ => by subst ha; exact next v w' hS hx) hwp)
      · rw [if_neg (by simp [hwant])]
        exact next undef w hS (Ext.refl w)

/-- **The region's law**: the last operation (it has no slot) comes last in every order. -/
theorem wp_region_lastF {id : Nat} {l : List Oper} {w : World} (S : Nat → Value → World → Prop) (s : Oper) (hlast : l.getLast? = some s) (hone : ((List.range (l.length - 1)).all fun i => match l[i]? with | some o => o.dst.isSome | none => true) = true) (hfm : Try.prog.follows .mixedOrders = true) (hd : depsOk l.toArray a0.tmps.size = true)
    (hc : coversB l.toArray = true) (hg : s.guard = none) (hds : s.dst = none)
    (hst : ∀ t v w w', S t v w → Ext w w' → S t v w')
    (h0 : ∀ t, (∀ o ∈ l, o.dst ≠ some t) → S t (a0.tmps.getD t undef) w)
    (hop : ∀ o ∈ l, o.dst.isSome = true → ROpG l.toArray Q S w o)
    (hend : ∀ (v : Nat → Value) (w' : World), Ext w w' → (∀ t, (∃ o ∈ l, o.dst = some t) → S t (v t) w') → s.wp Try.prog { tmps := fill l v a0.tmps, defers := a0.defers } w' (fun a' w'' => Q .normal a' w'') Q) :
    (Code.region id l.toArray true).wp Try.prog Q a0 w := by
  have hne : l ≠ [] := by rintro rfl; cases hlast
  have hpos := List.length_pos_iff.2 hne
  have hm : l.toArray[l.length - 1]? = some s := by
    rw [List.getLast?_eq_getElem?] at hlast
    simpa using hlast
  have hop' : ∀ (i : Nat) (o : Oper), l.toArray[i]? = some o → i ≠ l.length - 1 → ROpG l.toArray Q (fun t v w' => S t v w' ∧ ((∀ o ∈ l, o.dst ≠ some t) → v = a0.tmps.getD t undef)) w o := by
    intro i o hi hne' a w1 hx hl
    have hi' : l[i]? = some o := by simpa using hi
    have hil := (List.getElem?_eq_some_iff.1 hi').1
    have ho : o ∈ l := List.mem_of_getElem? hi'
    have hdi : o.dst.isSome = true := by
      have := (List.all_eq_true.1 hone) i (List.mem_range.2 (by omega))
      rw [hi'] at this
      exact this
    rcases hop o ho hdi a w1 hx (fun t ht => (hl t ht).1) with ⟨h1, h2⟩ | ⟨h1, h2⟩
    · exact Or.inl ⟨h1, Oper.wp_mono (fun a' w' ⟨v, e, hv, hw⟩ => ⟨v, e, fun t ht => ⟨hv t ht, fun hn => absurd ht (hn o ho)⟩, hw⟩) h2⟩
    · exact Or.inr ⟨h1, fun t ht => ⟨h2 t ht, fun hn => absurd ht (hn o ho)⟩⟩
  refine wp_region_any hfm (rinv_anyL (S := fun t v w' => S t v w' ∧ ((∀ o ∈ l, o.dst ≠ some t) → v = a0.tmps.getD t undef)) (w0 := w) (a0 := a0) hd hc hm (by simp; omega) hg hds (fun t v w1 w2 h hx => ⟨hst t v w1 w2 h.1 hx, h.2⟩) hop' (fun a w' hx hdef hsz hS => ?_) _ _ _ _ (by simp) ?_ ?_ ?_ ⟨(Ext.refl w).drew, rfl, rfl, fun t ht => ?_⟩)
  · have e : a = { tmps := fill l (fun t => a.tmps.getD t undef) a0.tmps, defers := a0.defers } := by
      have et : a.tmps = fill l (fun t => a.tmps.getD t undef) a0.tmps := by
        apply Array.ext
        · rw [fill_size, hsz]
        · intro i h1 h2
          have key : (fill l (fun t => a.tmps.getD t undef) a0.tmps)[i]? = some a.tmps[i] := by
            by_cases hw : ∃ o ∈ l, o.dst = some i
            · rw [fill_on _ l _ hw (by rw [← hsz]; exact h1)]
              simp [Array.getD, h1]
            · have hn : ∀ o ∈ l, o.dst ≠ some i := fun o ho he => hw ⟨o, ho, he⟩
              rw [fill_off _ l _ hn]
              have h3 : i < a0.tmps.size := by rw [← hsz]; exact h1
              have h4 := (hS i).2 hn
              simp only [Array.getD, h1, h3, dif_pos] at h4
              rw [Array.getElem?_eq_getElem h3]
              simpa using h4.symm
          have := (Array.getElem?_eq_some_iff.1 key).2
          exact this.symm
      cases a
      simp only at et hdef
      rw [← et, hdef]
    have := hend (fun t => a.tmps.getD t undef) w' hx (fun t _ => (hS t).1)
    rw [e]
    exact this
  · simp [cntT, List.count_replicate]
  · simp [Array.getD]
  · intro i o hi hl
    have hil : i < l.length := (Array.getElem?_eq_some_iff.1 hi).1
    simp [Array.getD, hil] at hl
  · have hn : ∀ o ∈ l, o.dst ≠ some t := fun o ho he => by
      obtain ⟨j, hj⟩ := List.mem_iff_getElem?.1 ho
      have := ht j o (by simpa using hj) he
      have hlt : j < l.length := (List.getElem?_eq_some_iff.1 hj).1
      simp [Array.getD, hlt] at this
    exact ⟨hst t _ w _ (h0 t hn) (Ext.refl w).drew, fun _ => rfl⟩
end
end Go.Proofs.Ytbkimfefbdfkbaa
