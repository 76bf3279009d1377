/- Layer 22 (brute): All's iterator, asked by law22.all's closure. -/
import Derived.Test.YtdiapihfjmbgoaaBr10
set_option maxRecDepth 100000
namespace Go.Proofs.Ytdiapihfjmbgoaa
open Go.RowKit Go.Shelf
attribute [local go_sem] Oper.semAt_some

/-- What was told so far: the box O holds a slice of its own of truths; the box M how many are wanted. -/
def JA (O M base : Nat) (most : Int) (n : Nat) (pre : List S16) (W : World) : Prop :=
  ∃ (u : Value) (vs : List Value), Boxed W O 27 u ∧ W.ownsRow base 33 1 u vs.length vs ∧ vs.length = pre.length ∧ (∀ (j : Nat) (x : S16), pre[j]? = some x → ∃ A k c, vs[j]? = some (.slice A k c) ∧ RowB W A k (bitsV x.1 n)) ∧ Boxed W M 3 (.int .i64 most)
theorem JA.own (O M base : Nat) (most : Int) (n : Nat) : Own (JA O M base most n) := by
  rintro s X Y row ⟨u, vs, h1, h2, h3, h4, h5⟩ hg hrow
  refine ⟨u, vs, blk_own O _ (fun (_ : Unit) => #[u]) () X Y row h1 hg hrow, World.ownsRow.kept h2 hg ?_, h3, fun j x hj => ?_, blk_own M _ (fun (_ : Unit) => #[.int .i64 most]) () X Y row h5 hg hrow⟩
  · rcases h2.2 with ⟨rfl, _⟩ | ⟨g, cap, cur, rfl, _, hgb, _⟩
    · exact .inl rfl
    · refine .inr fun e => ?_
      obtain ⟨o, ho, hc⟩ := hrow g e.symm
      rw [hgb] at ho; cases ho; cases hc
  · obtain ⟨A, k, c, e, hr⟩ := h4 j x hj
    exact ⟨A, k, c, e, rowB_own (fun (_ : Unit) => A) (fun _ => k) (fun _ => bitsV x.1 n) () X Y row hr hg hrow⟩
theorem JA.ext {O M base : Nat} {most : Int} {n : Nat} {pre : List S16} {W W' : World} (h : JA O M base most n pre W) (hx : Ext W W') : JA O M base most n pre W' := by
  obtain ⟨u, vs, h1, h2, h3, h4, h5⟩ := h
  exact ⟨u, vs, Blk.ext (cs := #[u]) h1 hx, OwnV.ext h2 hx, h3, fun j x hj => let ⟨A, k, c, e, hr⟩ := h4 j x hj; ⟨A, k, c, e, hr.ext hx⟩, Blk.ext (cs := #[.int .i64 most]) h5 hx⟩

theorem KT.mono {T T' : TypeId → Bool} {W W' : World} (h : KT T W W') (hT : ∀ t, T' t = true → T t = true) : KT T' W W' := ⟨h.1, fun k cs t fz ht hk => h.2 k cs t fz (hT t ht) hk⟩
theorem JA.told {O M base : Nat} {most : Int} {n : Nat} {pre : List S16} {x : S16} {W w5 w6 : World} {vs : List Value} {B : Option Addr} {k cc : Nat} {u' : Value} (hvl : vs.length = pre.length) (hrows : ∀ (j : Nat) (y : S16), pre[j]? = some y → ∃ A k c, vs[j]? = some (.slice A k c) ∧ RowB W A k (bitsV y.1 n)) (hbs : RowB w5 B k (bitsV x.1 n)) (hX5 : Ext W w5) (hkt : KT TK w5 w6)
    (hO : Boxed w6 O 27 u') (hu : w6.ownsRow base 33 1 u' (vs.length + 1) (vs ++ [.slice B k cc])) (hM : Boxed w6 M 3 (.int .i64 most)) : JA O M base most n (pre ++ [x]) w6 := by
  refine ⟨u', vs ++ [.slice B k cc], hO, by rw [List.length_append]; exact hu, by simp [hvl], fun j y hj => ?_, hM⟩
  by_cases hlt : j < pre.length
  · rw [List.getElem?_append_left hlt] at hj
    obtain ⟨A, k', c, e, hr⟩ := hrows j y hj
    exact ⟨A, k', c, by rw [List.getElem?_append_left (by omega)]; exact e, (hr.ext hX5).kt hkt rfl⟩
  · rw [List.getElem?_append_right (by omega)] at hj
    have hj0 : j - pre.length = 0 := by
      have := (List.getElem?_eq_some_iff.1 hj).1
      simp at this; omega
    rw [hj0] at hj
    cases hj
    exact ⟨B, k, cc, by rw [List.getElem?_append_right (by omega), hvl, hj0]; rfl, hbs.kt hkt rfl⟩

set_option maxRecDepth 100000 in
set_option maxHeartbeats 4000000 in
theorem allTell_c (Fb O M base : Nat) (v : Int) (A : Option Addr) (nn c : Nat) (L : List (List Int)) (most : Int) (w : World) (hsm : nn ≤ 1000000) (hF : Blk w Fb 24 #[.int .i64 v, .slice A nn c]) (hR : RowsSl w A nn L) (hbO : base ≤ O) (hbw : base ≤ w.heap.size) (h0 : JA O M base most v.toNat [] w) :
    Calls Try.prog 48 #[.func (.func 31) #[] #[.pointer (some ⟨O, 0, none⟩), .pointer (some ⟨M, 0, none⟩)], .pointer (some ⟨Fb, 0, none⟩)] w fun e w' => e = .returned (.tuple #[]) ∧ ∃ pre : List S16, pre.map Subtype.val = (setsV v L).take (max 1 most).toNat ∧ JA O M base most v.toNat pre w' ∧ Below base w w' := by
  refine (callsIn_wide (n := 4)).1 ?_
  refine callsIn_of_wp_marks Try.func48 rfl trivial ?_ rfl
  simp only [Try.ntmps48, List.size_toArray, List.length_cons, List.length_nil, Nat.reduceAdd, Nat.reduceSub, Array.replicate_succ, Array.replicate_zero, List.push_toArray, List.append_toArray, List.nil_append, List.cons_append]
  have hF0 := hF.alloc (Obj.cells #[(.func (.func 31) #[] #[.pointer (some ⟨O, 0, none⟩), .pointer (some ⟨M, 0, none⟩)])] 65)
  have hcF := hF0.cell 0
  have hcF1 := hF0.cell 1
  gi_wp2_with (refine ⟨trivial, ?_⟩; gi_at_call 26; refine ((callsIn_wide (n := 3)).2 (sets_c v A nn c _)).mono ?_; rintro e w' ⟨rfl, rfl⟩)
  have hX := ((Ext.refl w).alloc (Obj.cells #[(.func (.func 31) #[] #[.pointer (some ⟨O, 0, none⟩), .pointer (some ⟨M, 0, none⟩)])] 65)).alloc (Obj.cells #[.int .i64 v, .slice A nn c] 24)
  have hb0 := (Blk.new w 65 #[(.func (.func 31) #[] #[.pointer (some ⟨O, 0, none⟩), .pointer (some ⟨M, 0, none⟩)])]).alloc (Obj.cells #[.int .i64 v, .slice A nn c] 24)
  have hb1 := Blk.new (w.alloc (Obj.cells #[(.func (.func 31) #[] #[.pointer (some ⟨O, 0, none⟩), .pointer (some ⟨M, 0, none⟩)])] 65)) 24 #[.int .i64 v, .slice A nn c]
  rw [World.size_alloc] at hb1
  have hsz : ((w.alloc (Obj.cells #[(.func (.func 31) #[] #[.pointer (some ⟨O, 0, none⟩), .pointer (some ⟨M, 0, none⟩)])] 65)).alloc (Obj.cells #[.int .i64 v, .slice A nn c] 24)).heap.size = w.heap.size + 2 := by simp
  clear hcF hcF1 hF0
  generalize (w.alloc (Obj.cells #[(.func (.func 31) #[] #[.pointer (some ⟨O, 0, none⟩), .pointer (some ⟨M, 0, none⟩)])] 65)).alloc (Obj.cells #[.int .i64 v, .slice A nn c] 24) = w3 at hX hb0 hb1 hsz ⊢
  refine wpIn_rangeFunc_ownG (F := Fence.wide) rfl (by decide) (gf := 42) (lb := #[.pointer (some ⟨w.heap.size + 1, 0, none⟩)]) rfl trivial (enters_of Try.func42 (by kernel_rfl) rfl)
    (sets_stops 3 (by decide) (w.heap.size + 1) v A nn c L w3 hsm hb1 (hR.ext hX)) KT.trans (KT.putObj _ w3) (Below.refl _ _) (fun _ => rfl)
    (fun pre W => (((JA O M base most v.toNat pre W ∧ Blk W w.heap.size 65 #[(.func (.func 31) #[] #[.pointer (some ⟨O, 0, none⟩), .pointer (some ⟨M, 0, none⟩)])]) ∧ Blk W Fb 24 #[.int .i64 v, .slice A nn c])) ∧ Below base w W ∧ (pre = [] ∨ (pre.length : Int) < most))
    (fun c pre W => JA O M base most v.toNat pre W ∧ Below base w W ∧ (c = .ret ∧ most ≤ (pre.length : Int) ∧ (pre.length = 1 ∨ (pre.length : Int) - 1 < most)))
    ?hI ?hIx ?h0
    (fun x => { tmps := #[(.func (.func 31) #[] #[.pointer (some ⟨O, 0, none⟩), .pointer (some ⟨M, 0, none⟩)]), .pointer (some ⟨Fb, 0, none⟩), .pointer (some ⟨w.heap.size, 0, none⟩), .int .u32 x.1, .agg #[.int .i64 v, .slice A nn c], .func (.func 42) #[] #[.pointer (some ⟨w.heap.size + 1, 0, none⟩)], .int .u32 x.1, undef, undef, undef, undef, undef, undef, undef], defers := [] }) ?assign ?body ?done ?stop
  case hI => exact OwnFrom.and (OwnFrom.and (OwnFrom.and (Own.from (JA.own _ _ _ _ _) _) (Own.from (blk_own _ _ (fun _ => #[(.func (.func 31) #[] #[.pointer (some ⟨O, 0, none⟩), .pointer (some ⟨M, 0, none⟩)])])) _)) (Own.from (blk_own _ _ (fun _ => #[.int .i64 v, .slice A nn c])) _)) (OwnFrom.and (ownFrom_below hbw (by omega)) (ownFrom_pure _ (fun (pre : List S16) => pre = [] ∨ (pre.length : Int) < most)))
  case hIx => exact fun c => OwnFrom.and (Own.from (JA.own _ _ _ _ _) _) (OwnFrom.and (ownFrom_below hbw (by omega)) (ownFrom_pure _ (fun (pre : List S16) => c = .ret ∧ most ≤ (pre.length : Int) ∧ (pre.length = 1 ∨ (pre.length : Int) - 1 < most))))
  case h0 => exact ⟨⟨⟨h0.ext hX, hb0⟩, hF.ext hX⟩, (show Below w.heap.size w w3 from hX).mono hbw, .inl rfl⟩
  case assign =>
    intro l x W K hK
    gi_wp2
    exact hK
  case body =>
    rintro l pre x W ⟨⟨⟨hJ, hY⟩, hF⟩, hB, hm⟩ hlen
    have hsl := setsV_len v L
    obtain ⟨hv0, hv16⟩ := sets_ok hlen
    obtain ⟨vn, rfl⟩ := Int.eq_ofNat_of_zero_le hv0
    have y0 := hY.cell 0
    have f0 := hF.cell 0
    have hd1 : 1 ≤ 4 - 1 - 1 := by decide
    have hmx : Try.prog.follows .mixedOrders = true := by kernel_rfl
    obtain ⟨u, vs, hO, hu, hvl, hrows, hM⟩ := hJ
    have HROWS := Lib.hid hrows
    have HM := Lib.hid hm
    have HB := Lib.hid hB
    clear hrows hm
    have hvs : vs.length ≤ 100000 := by omega
    obtain ⟨b, hb⟩ : ∃ b, decide ((vs.length : Int) + 1 < most) = b := ⟨_, rfl⟩
    have HD := Lib.hid hb
    have HD2 : Hid (decide (((pre ++ [x]).length : Int) < most) = b) := by
      unfold Hid
      rw [← hb]
      exact decide_eq_decide.2 (by rw [List.length_append, hvl]; simp)
    clear hb
    gi_wp2
    gi_region_with_o (first
      | (refine ⟨trivial, ?_⟩; gi_at_call 29; refine (CallsIn.inRound l ((callsIn_wide (n := 1)).2 (btruthsR_c x.1 vn _ (by omega) x.2))).mono ?_; rintro e w5 ⟨B, k, cc, rfl, hbs, hx5⟩; have hX5 : Ext W w5 := (Ext.refl W).drew.trans hx5; have hO5 := Blk.ext (cs := #[u]) hO hX5; have hu5 := OwnV.ext hu hX5; have hM5 := Blk.ext (cs := #[.int .i64 most]) hM hX5; have y5 := (hY.ext hX5).cell 0; have HBS := Lib.hid hbs; clear hbs)
      | (refine ⟨trivial, ?_⟩; gi_at_call 31; refine (CallsIn.inRound l ((callsIn_wide (n := 1)).2 (tell1_c O M base u vs most B k cc w5 hO5 hu5 hM5 hbO (Nat.le_trans hbw (Nat.le_trans HB.out.size hX5.size)) hvs))).mono ?_; rintro e w6 ⟨rfl, u', hO6, hu6, hM6, hkt6, hko6, hb6⟩; rw [HD.out]))
    all_goals
      have hJ6 := JA.told hvl HROWS.out HBS.out hX5 hkt6 hO6 hu6 hM6
      have hkf : KeepsOthers W w6 := (KeepsOthers.ext hX5).trans hko6
      have hB6 : Below base w w6 := (HB.out.trans ((show Below W.heap.size W w5 from hX5).mono (Nat.le_trans hbw HB.out.size))).trans hb6
      have HK := Lib.hid (And.intro hJ6 (And.intro hkf hB6))
      clear hJ6 hkf hB6
      cases b
      · gi_wp2
        have h1 := Int.not_lt.1 (of_decide_eq_false HD2.out)
        refine ⟨HK.out.2.1.from _, HK.out.1, HK.out.2.2, rfl, h1, ?_⟩
        rcases HM.out with rfl | hm
        · exact .inl rfl
        · refine .inr ?_
          rw [List.length_append]
          simp
          exact hm
      · gi_wp2
        exact ⟨HK.out.2.1.from _, (KT.ext hX5).trans (hkt6.mono (fun t ht => by simp at ht; subst ht; rfl)), ⟨⟨HK.out.1, hkt6.blk (hY.ext hX5) rfl⟩, hkt6.blk (hF.ext hX5) rfl⟩, HK.out.2.2, .inr (of_decide_eq_true HD2.out)⟩
  case done =>
    rintro D ys W hD hS ⟨⟨⟨hJ, hY⟩, hF⟩, hB, hm⟩ hK
    have hlen : ys.length = (setsV v L).length := by rw [← hS, List.length_map]
    have HQ := Lib.hid (And.intro hS (And.intro hlen hm))
    clear hS hlen hm
    gi_wp2
    refine ⟨by simp, .inl ⟨_, _, rfl, run_takeDeferred hK, ?_⟩⟩
    have hrow : ∀ r, some D = some r → ∃ o : Obj, W.heap[r]? = some o ∧ o.isCells = false := fun r e => by cases e; exact ⟨_, hK, rfl⟩
    refine ⟨_, results_none rfl _ _ _, rfl, ys, ?_, JA.own _ _ _ _ _ ys W _ (some D) hJ (grownBy_putObj' W D _) hrow, hB.grown (grownBy_putObj' W D _) (by have := hB.size; omega) (fun k e => by cases e; omega)⟩
    rw [HQ.out.1, List.take_of_length_le]
    rcases HQ.out.2.2 with rfl | hm
    · have := HQ.out.2.1
      simp at this
      omega
    · have := HQ.out.2.1
      omega
  case stop =>
    rintro D c' pre W hD ⟨k, hk, hp⟩ ⟨hJ, hB, rfl, h1, h2⟩ hK
    have hlen : pre.length = k + 1 := by
      have : (pre.map Subtype.val).length = ((setsV v L).take (k + 1)).length := by rw [hp]
      rw [List.length_map, List.length_take] at this
      omega
    have HQ : Hid (pre.map Subtype.val = (setsV v L).take (max 1 most).toNat) := by
      unfold Hid
      rw [hp]
      congr 1
      omega
    clear hp h1 h2 hk hlen
    gi_wp2
    refine ⟨by simp, .inl ⟨_, _, rfl, run_takeDeferred hK, ?_⟩⟩
    have hrow : ∀ r, some D = some r → ∃ o : Obj, W.heap[r]? = some o ∧ o.isCells = false := fun r e => by cases e; exact ⟨_, hK, rfl⟩
    exact ⟨_, results_none rfl _ _ _, rfl, pre, HQ.out, JA.own _ _ _ _ _ pre W _ (some D) hJ (grownBy_putObj' W D _) hrow, hB.grown (grownBy_putObj' W D _) (by have := hB.size; omega) (fun k e => by cases e; omega)⟩
end Go.Proofs.Ytdiapihfjmbgoaa
