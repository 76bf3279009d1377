/- Layer 22 (brute): All's iterator, asked by a range: each round is handed truths that can be read there. -/
import Derived.Test.YtdiapihfjmbgoaaBr12
set_option maxRecDepth 100000
namespace Go.Proofs.Ytdiapihfjmbgoaa
open Go.RowKit Go.Shelf
attribute [local go_sem] Oper.semAt_some

/-- The rounds of a range over All. -/
def AskAt (l m B : Nat) (n : Nat) (J Jx : List S16 → World → Prop) : Prop :=
  ∀ (pre : List S16) (x : S16) (A : Option Addr) (k c : Nat) (W1 : World), J pre W1 → B ≤ W1.heap.size → RowB W1 A k (bitsV x.1 n) →
    YieldAt Fence.wide m Try.prog l #[.slice A k c] W1 fun e W' => ∃ b : Bool, e = .returned (.bool b) ∧ KeepsFrom B W1 W' ∧ (b = true → J (pre ++ [x]) W' ∧ KT TK W1 W') ∧ (b = false → Jx (pre ++ [x]) W')

set_option maxRecDepth 100000 in
set_option maxHeartbeats 4000000 in
theorem allAsk_in (l Fb : Nat) (v : Int) (A : Option Addr) (nn c : Nat) (L : List (List Int)) (J Jx : List S16 → World → Prop) (w : World) (hsm : nn ≤ 1000000) (hF : Blk w Fb 24 #[.int .i64 v, .slice A nn c]) (hR : RowsSl w A nn L)
    (hJ : OwnFrom w.heap.size J) (hJx : OwnFrom w.heap.size Jx) (hY : AskAt l 1 w.heap.size v.toNat J Jx) (h0 : J [] w) :
    CallsIn Fence.wide 4 Try.prog 48 #[.func (.yield l) #[] #[], .pointer (some ⟨Fb, 0, none⟩)] w fun e w' => (∃ x, e = .returned x) ∧ ((∃ ys : List S16, ys.map Subtype.val = setsV v L ∧ J ys w') ∨ (∃ pre : List S16, (∃ k, k < (setsV v L).length ∧ pre.map Subtype.val = (setsV v L).take (k + 1)) ∧ Jx pre w')) := by
  refine callsIn_of_wp_marks Try.func48 rfl trivial ?_ rfl
  simp only [Try.ntmps48, List.size_toArray, List.length_cons, List.length_nil, Nat.reduceAdd, Nat.reduceSub, Array.replicate_succ, Array.replicate_zero, List.push_toArray, List.append_toArray, List.nil_append, List.cons_append]
  have hF0 := hF.alloc (Obj.cells #[(.func (.yield l) #[] #[])] 65)
  have hcF := hF0.cell 0
  have hcF1 := hF0.cell 1
  gi_wp2_with (refine ⟨trivial, ?_⟩; gi_at_call 26; refine ((callsIn_wide (n := 3)).2 (sets_c v A nn c _)).mono ?_; rintro e w' ⟨rfl, rfl⟩)
  have hX := ((Ext.refl w).alloc (Obj.cells #[(.func (.yield l) #[] #[])] 65)).alloc (Obj.cells #[.int .i64 v, .slice A nn c] 24)
  have hb0 := (Blk.new w 65 #[(.func (.yield l) #[] #[])]).alloc (Obj.cells #[.int .i64 v, .slice A nn c] 24)
  have hb1 := Blk.new (w.alloc (Obj.cells #[(.func (.yield l) #[] #[])] 65)) 24 #[.int .i64 v, .slice A nn c]
  rw [World.size_alloc] at hb1
  have hsz : ((w.alloc (Obj.cells #[(.func (.yield l) #[] #[])] 65)).alloc (Obj.cells #[.int .i64 v, .slice A nn c] 24)).heap.size = w.heap.size + 2 := by simp
  clear hcF hcF1 hF0
  generalize (w.alloc (Obj.cells #[(.func (.yield l) #[] #[])] 65)).alloc (Obj.cells #[.int .i64 v, .slice A nn c] 24) = w3 at hX hb0 hb1 hsz ⊢
  have own3 : ∀ {K : List S16 → World → Prop}, OwnFrom w.heap.size K → OwnFrom w3.heap.size K := fun h s X Z row hs hg hr => h s X Z row hs hg (fun r e => ⟨by have := (hr r e).1; omega, (hr r e).2⟩)
  have ext3 : ∀ {K : List S16 → World → Prop}, OwnFrom w.heap.size K → ∀ {pre : List S16} {X Z : World}, K pre X → Ext X Z → K pre Z := fun h pre X Z hs hx => h pre X Z none hs (ext_grown hx) (fun r e => by cases e)
  refine wpIn_rangeFunc_ownG (F := Fence.wide) rfl (by decide) (gf := 42) (lb := #[.pointer (some ⟨w.heap.size + 1, 0, none⟩)]) rfl trivial (enters_of Try.func42 (by kernel_rfl) rfl)
    (sets_stops 3 (by decide) (w.heap.size + 1) v A nn c L w3 hsm hb1 (hR.ext hX)) KT.trans (KT.putObj _ w3) (Below.refl _ _) (fun _ => rfl)
    (fun pre W => (((J pre W ∧ Blk W w.heap.size 65 #[(.func (.yield l) #[] #[])]) ∧ Blk W Fb 24 #[.int .i64 v, .slice A nn c])))
    (fun c pre W => Jx pre W ∧ c = .ret)
    ?hI ?hIx ?h0
    (fun x => { tmps := #[(.func (.yield l) #[] #[]), .pointer (some ⟨Fb, 0, none⟩), .pointer (some ⟨w.heap.size, 0, none⟩), .int .u32 x.1, .agg #[.int .i64 v, .slice A nn c], .func (.func 42) #[] #[.pointer (some ⟨w.heap.size + 1, 0, none⟩)], .int .u32 x.1, undef, undef, undef, undef, undef, undef, undef], defers := [] }) ?assign ?body ?done ?stop
  case hI => exact OwnFrom.and (OwnFrom.and (own3 hJ) (Own.from (blk_own _ _ (fun _ => #[(.func (.yield l) #[] #[])])) _)) (Own.from (blk_own _ _ (fun _ => #[.int .i64 v, .slice A nn c])) _)
  case hIx => exact fun c => OwnFrom.and (own3 hJx) (ownFrom_pure _ (fun (_ : List S16) => c = .ret))
  case h0 => exact ⟨⟨ext3 hJ h0 hX, hb0⟩, hF.ext hX⟩
  case assign =>
    intro l x W K hK
    gi_wp2
    exact hK
  case body =>
    rintro l2 pre x W ⟨⟨hj, hy⟩, hF⟩ hlen
    have hsl := setsV_len v L
    obtain ⟨hv0, hv16⟩ := sets_ok hlen
    obtain ⟨vn, rfl⟩ := Int.eq_ofNat_of_zero_le hv0
    have y0 := hy.cell 0
    have f0 := hF.cell 0
    have hd1 : 1 ≤ 4 - 1 - 1 := by decide
    have hmx : Try.prog.follows .mixedOrders = true := by kernel_rfl
    have hWs : w.heap.size ≤ W.heap.size := by have := hy.lt; omega
    gi_wp2
    gi_region_with_o (first
      | (refine ⟨trivial, ?_⟩; gi_at_call 29; refine (CallsIn.inRound l2 ((callsIn_wide (n := 1)).2 (btruthsR_c x.1 vn _ (by omega) x.2))).mono ?_; rintro e w5 ⟨B, k, cc, rfl, hbs, hx5⟩; have hX5 : Ext W w5 := (Ext.refl W).drew.trans hx5; have y5 := (hy.ext hX5).cell 0; obtain ⟨fn, tmps, assign, body, hyy, hR3⟩ := hY pre x B k cc w5 (ext3 hJ hj hX5) (Nat.le_trans hWs hX5.size) hbs)
      | (refine RoundIn.mono (show RoundIn (Fence.wide.inRound l2) 1 Try.prog l fn tmps assign body w5 _ from hR3) ?_; rintro e w6 ⟨b, rfl, hko6, hq1, hq2⟩))
    all_goals
      have hkf : KeepsFrom w.heap.size W w6 := ((KeepsOthers.ext hX5).from _).trans hko6
      have hk3 : KeepsFrom w3.heap.size W w6 := ⟨hkf.size, fun k o hk h1 h2 => hkf.same k o (by omega) h1 h2⟩
      have hk4 : KeepsFrom (w.heap.size + 2) W w6 := ⟨hkf.size, fun k o hk h1 h2 => hkf.same k o (by omega) h1 h2⟩
      have HQ := Lib.hid (And.intro hq1 hq2)
      clear hq1 hq2
      cases b
      · gi_wp2
        exact ⟨by first | exact hk3 | exact hk4, HQ.out.2 (by trivial), rfl⟩
      · gi_wp2
        exact ⟨by first | exact hk3 | exact hk4, (KT.ext hX5).trans ((HQ.out.1 (by trivial)).2.mono (fun t ht => by simp at ht; subst ht; rfl)), ⟨(HQ.out.1 (by trivial)).1, (HQ.out.1 (by trivial)).2.blk (hy.ext hX5) rfl⟩, (HQ.out.1 (by trivial)).2.blk (hF.ext hX5) rfl⟩
  case done =>
    rintro D ys W hD hS ⟨⟨hj, hy⟩, hF⟩ hK
    have HS := Lib.hid hS
    clear hS
    gi_wp2
    refine ⟨by simp, .inl ⟨_, _, rfl, run_takeDeferred hK, ?_⟩⟩
    exact ⟨_, results_none rfl _ _ _, ⟨_, rfl⟩, .inl ⟨ys, HS.out, hJ.putObj _ hj (by omega) hK rfl⟩⟩
  case stop =>
    rintro D c' pre W hD ⟨k, hk, hp⟩ ⟨hj, rfl⟩ hK
    have HS := Lib.hid (And.intro hk hp)
    clear hk hp
    gi_wp2
    refine ⟨by simp, .inl ⟨_, _, rfl, run_takeDeferred hK, ?_⟩⟩
    exact ⟨_, results_none rfl _ _ _, ⟨_, rfl⟩, .inr ⟨pre, ⟨k, HS.out.1, HS.out.2⟩, hJx.putObj _ hj (by omega) hK rfl⟩⟩
end Go.Proofs.Ytdiapihfjmbgoaa
