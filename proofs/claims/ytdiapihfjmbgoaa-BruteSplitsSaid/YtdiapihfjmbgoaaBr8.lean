/- Layer 22 (brute): First; slices.Equal, AppendSeq and Collect of sets. -/
import Derived.Test.YtdiapihfjmbgoaaBr7
import Derived.Test.YtdiapihfjmbgoaaGen
import Derived.Maps.AppendAt
set_option maxRecDepth 100000
namespace Go.Proofs.Ytdiapihfjmbgoaa
open Go.RowKit Go.Shelf
attribute [local go_sem] Oper.semAt_some

theorem bfirst_c (v : Int) (A : Option Addr) (nn c : Nat) (L : List (List Int)) (w : World) (hR : RowsSl w A nn L) (hsm : nn ≤ 1000000) :
    Calls Try.prog 14 #[.agg #[.int .i64 v, .slice A nn c]] w (RetNth v L 0 w) := by
  have hX := (Ext.refl w).alloc (Obj.cells #[.int .i64 v, .slice A nn c] 24)
  have HX := Lib.hid hX
  have HR := Lib.hid (hR.ext hX)
  clear hR hX
  go_enter Try.func14, Try.ntmps14
  go_wp2_with fail
  refine (nth_c v _ _ _ L 0 _ HR.out hsm).mono ?_
  rintro e w1 ⟨A1, k1, c1, ok, ms, rfl, hs, hx, hr⟩
  have HS := Lib.hid hs
  have HR1 := Lib.hid hr
  have HX1 := Lib.hid (HX.out.trans hx)
  clear hs hx hr
  go_wp2
  go_ret2
  exact ⟨_, _, _, _, _, rfl, HS.out, HX1.out, HR1.out⟩

/-- A slice of sets. -/
def NatSl (w : World) (A : Option Addr) (n : Nat) (xs : List Nat) : Prop :=
  xs.length = n ∧ n ≤ 9223372036854775807 ∧ (0 < n → ∃ ad, A = some ad ∧ ∀ (j : Nat) (x : Nat), xs[j]? = some x → w.cell? (ad.add j) = some (.int .u32 x))
section
variable {w w' : World} {A : Option Addr} {n : Nat} {xs : List Nat}
theorem NatSl.ext (h : NatSl w A n xs) (hx : Ext w w') : NatSl w' A n xs :=
  ⟨h.1, h.2.1, fun hn => let ⟨ad, e, hc⟩ := h.2.2 hn; ⟨ad, e, fun j x hj => hx.cell (hc j x hj)⟩⟩
theorem NatSl.len (h : NatSl w A n xs) : n ≤ 9223372036854775807 := h.2.1
theorem NatSl.at_ (h : NatSl w A n xs) {k : Nat} (hk : k < n) : ∃ ad x, A = some ad ∧ Hid (xs[k]? = some x) ∧ w.cell? (ad.add k) = some (.int .u32 (x : Nat)) := by
  obtain ⟨ad, e, hc⟩ := h.2.2 (by omega)
  have hl : k < xs.length := by have := h.1; omega
  have hx : xs[k]? = some xs[k] := List.getElem?_eq_getElem hl
  exact ⟨ad, xs[k], e, Lib.hid hx, hc k _ hx⟩
end
theorem NatSl.of_own {w : World} {base : Nat} {v : Value} {n : Nat} {xs : List Nat} (h : w.ownsRow base 60 1 v n (xs.map fun m => Value.int .u32 (m : Nat))) (hn : n ≤ 9223372036854775807) : ∃ A c, v = .slice A n c ∧ NatSl w A n xs := by
  obtain ⟨A, c, e, hs, _⟩ := OwnV.sl h hn
  refine ⟨A, c, e, by have := hs.1; simpa using this, hs.2.1, fun h0 => ?_⟩
  obtain ⟨ad, e1, hc⟩ := hs.2.2 h0
  exact ⟨ad, e1, fun j x hj => hc j _ (by rw [List.getElem?_map, hj]; rfl)⟩

set_option maxHeartbeats 1000000 in
theorem equalN_c (A : Option Addr) (n c : Nat) (xs : List Nat) (A' : Option Addr) (n' c' : Nat) (ys : List Nat) (w : World) (h : NatSl w A n xs) (h' : NatSl w A' n' ys) :
    Calls Try.prog 36 #[.slice A n c, .slice A' n' c'] w fun e w' => e = .returned (.bool (decide (xs = ys))) ∧ Ext w w' := by
  have hn := h.len
  by_cases hl : n = n'
  · subst hl
    go_enter Try.func36, Try.ntmps36
    go_wp2
    go_loopw [13] (fun i wr => ∃ k : Nat, k ≤ n ∧ i = .int .i64 k ∧ xs.take k = ys.take k ∧ Ext w wr) (fun i _ => n - (intOf i).toNat)
    case atStart => exact ⟨0, Nat.zero_le _, rfl, by simp, Ext.refl w⟩
    case round =>
      obtain ⟨k, hk, rfl, he, hx⟩ := hrel
      have HE := Lib.hid he
      have HX := Lib.hid hx
      clear he hx
      by_cases hlt : k < n
      · obtain ⟨ad, x, rfl, hx1, hc1⟩ := (h.ext HX.out).at_ hlt
        obtain ⟨ad', y, rfl, hy1, hc1'⟩ := (h'.ext HX.out).at_ hlt
        have b0 : (0 : Int) ≤ (k : Int) := by omega
        have b1 : (k : Int) < (n : Int) := by omega
        go_wp2
        go_quiet (fail)
        go_wp2
        · go_ret
          have hne : ((x : Int) != (y : Int)) = true := by assumption
          refine ⟨ret_bool ?_, HX.out.drewN _⟩
          have : xs ≠ ys := fun e => by
            subst e
            have := hx1.out.symm.trans hy1.out
            simp at this hne
            omega
          simp [this]
        · have hne : ((x : Int) != (y : Int)) = false := by assumption
          go_roundw
          case rel =>
            have e : x = y := by simp at hne; omega
            subst e
            exact ⟨k + 1, by omega, by go_num, take_eq_succ HE.out hx1.out hy1.out, HX.out.drewN _⟩
          case measure => simp [intOf]; omega
      · go_wp2
        go_ret
        refine ⟨ret_bool ?_, HX.out⟩
        have e := HE.out
        rw [take_len_of h.1 hlt, take_len_of h'.1 hlt] at e
        simp [e]
  · have hb : ((n : Int) != (n' : Int)) = true := by rw [bne_iff_ne]; omega
    have HL := Lib.hid hl
    clear hl
    go_enter Try.func36, Try.ntmps36
    go_wp2
    go_ret
    refine ⟨ret_bool ?_, Ext.refl w⟩
    have : xs ≠ ys := fun e => HL.out (by rw [← h.1, ← h'.1, e])
    simp [this]

theorem infoU32 : (Try.prog.info? 60).map (fun i => (i.zero, i.size, i.bytes)) = some (some (.int .u32 0), 1, 4) := by kernel_rfl
/-- A row that grows turns no block of another type. -/
theorem KT.own {T : TypeId → Bool} {W W' : World} {base size n : Nat} {e : TypeId} {v : Value} {us : List Value} (h : W.ownsRow base e size v n us) (ht : T e = false) (hg : W.grownBy W' v.ownBlock) : KT T W W' := by
  refine ⟨hg.size, fun k cs t fz hT hk => (hg.block k (Array.getElem?_eq_some_iff.1 hk).1 (fun ek => ?_)).trans hk⟩
  rcases h.2 with ⟨rfl, _⟩ | ⟨g, cap, cur, rfl, _, hgb, _⟩
  · simp [Value.ownBlock] at ek
  · have : k = g := by simpa [Value.ownBlock] using ek
    subst this
    rw [hgb] at hk
    injection hk with hk
    injection hk with _ h2 _
    rw [← h2, ht] at hT
    cases hT

set_option maxRecDepth 100000 in
set_option maxHeartbeats 4000000 in
theorem appendSeq_c (Bs : Nat) (v : Int) (A : Option Addr) (nn c : Nat) (L : List (List Int)) (w : World) (hsm : nn ≤ 1000000) (hBs : Blk w Bs 24 #[.int .i64 v, .slice A nn c]) (hR : RowsSl w A nn L) :
    Calls Try.prog 53 #[.slice none 0 0, .func (.func 42) #[] #[.pointer (some ⟨Bs, 0, none⟩)]] w fun e w' => ∃ A' n' c', e = .returned (.slice A' n' c') ∧ NatSl w' A' n' (setsV v L) ∧ Ext w w' := by
  obtain ⟨i0, hi, hz0, hz1, hz2⟩ := info_parts infoU32
  refine (callsIn_wide (n := 3)).1 ?_
  refine callsIn_of_wp_marks Try.func53 rfl trivial ?_ rfl
  simp only [Try.ntmps53, List.size_toArray, List.length_cons, List.length_nil, Nat.reduceAdd, Nat.reduceSub, Array.replicate_succ, Array.replicate_zero, List.push_toArray, List.append_toArray, List.nil_append, List.cons_append]
  gi_wp2
  have bO := Boxed.new w 71 (.slice none 0 0)
  have hX := (Ext.refl w).alloc (Obj.cells #[.slice none 0 0] 71)
  have hsz : (w.alloc (Obj.cells #[.slice none 0 0] 71)).heap.size = w.heap.size + 1 := by simp
  generalize w.alloc (Obj.cells #[.slice none 0 0] 71) = w3 at bO hX hsz ⊢
  refine wpIn_rangeFunc_ownG (F := Fence.wide) rfl (by decide) (gf := 42) (lb := #[.pointer (some ⟨Bs, 0, none⟩)]) rfl trivial (enters_of Try.func42 (by kernel_rfl) rfl)
    (sets_stops 2 (by decide) Bs v A nn c L w3 hsm (hBs.ext hX) (hR.ext hX)) KT.trans (KT.putObj _ w3) (Below.refl _ _) (fun _ => rfl)
    (fun (pre : List S16) W => (∃ u, Boxed W w.heap.size 71 u ∧ W.ownsRow w.heap.size 60 1 u pre.length ((pre.map Subtype.val).map fun m => Value.int .u32 (m : Nat)) ∧ (u = .slice none 0 0 ↔ pre = [])) ∧ Below w.heap.size w W)
    (fun _ _ _ => False)
    (OwnFrom.and (Own.from (holdsRow_own w.heap.size w.heap.size 71 60 1 (fun (pre : List S16) => pre.length) (fun pre => (pre.map Subtype.val).map fun m => Value.int .u32 (m : Nat)) (fun pre u => u = .slice none 0 0 ↔ pre = [])) _) (ownFrom_below (Nat.le_refl _) (by omega)))
    (fun _ _ _ _ _ hs _ _ => hs)
    ⟨⟨_, bO, World.ownsRow_nil _ _ _ _, by simp⟩, hX⟩
    (fun x => { tmps := #[.slice none 0 0, .func (.func 42) #[] #[.pointer (some ⟨Bs, 0, none⟩)], .pointer (some ⟨w.heap.size, 0, none⟩), undef, .slice none 0 0, .int .u32 x.1, .func (.func 42) #[] #[.pointer (some ⟨Bs, 0, none⟩)], .int .u32 x.1, undef, undef, undef, undef, undef], defers := [] }) ?assign ?body ?done ?stop
  case assign =>
    intro l x W K hK
    gi_wp2
    exact hK
  case body =>
    rintro l pre x W ⟨⟨u, hv, hrow, hnil⟩, hB⟩ hlt
    have hsl := setsV_len v L
    have hc := hv.cell
    gi_wp2_with (gi_at_builtin; refine wpListIn_append_own _ rfl _ _ 71 rfl w.heap.size 60 i0 (.int .u32 0) 1 4 Try.underlying71 hi hz0 hz1 hz2 rfl (by decide) _ _ _ rfl (hrow.alloc _) ⟨W.heap.size, 0, none⟩ 1 1 [.int .u32 x.1] rfl rfl (cell_one_new _ _ _) (by simp [Value.oneCell']) (by unfold maxLen; omega) (by omega) (by have := hB.size; simp; omega) ?_; intro v' w1 hown' hgrow _; obtain ⟨g', cap', rfl⟩ := ownsRow_succ hown'; obtain ⟨hv1, hv2, hr2, hk2, hb2⟩ := hv.appended (by decide) hrow hB.size (Nat.le_refl _) hown' hgrow; have hkt := (KT.ext ((Ext.refl W).alloc _)).trans (KT.own (T := fun t => t == 82) (hrow.alloc _) rfl hgrow); have hc1 := hv1.cell; have hf1 := hv1.frozen)
    exact ⟨hk2.from _, hkt.trans (KT.setCell (cs := #[u]) hv1 rfl 0 _), ⟨_, hv2, by simpa using hr2, by simp⟩, hB.trans hb2⟩
  case done =>
    rintro D ys W hD hS ⟨⟨u, hv, hrow, _⟩, hB⟩ hK
    have hsl := setsV_len v L
    have hlen : ys.length = (setsV v L).length := by rw [← hS, List.length_map]
    rw [hS] at hrow
    obtain ⟨A', c', rfl, hs⟩ := NatSl.of_own hrow (by omega)
    have hc := hv.cell
    have hr2 := ownsRow_putObj hrow (.deferred none) hK rfl
    clear hs
    obtain ⟨A'', c'', he, hs⟩ := NatSl.of_own hr2 (by omega)
    cases he
    have HS := Lib.hid hs
    clear hs hrow hr2 hS hlen
    gi_wp2
    refine ⟨by simp, .inl ⟨_, _, rfl, run_takeDeferred hK, ?_⟩⟩
    exact ⟨_, results_tmp rfl _ _ _, _, _, _, rfl, HS.out, (show Ext w W from hB).grown (grownBy_putObj' W D _) (fun k e => by cases e; omega)⟩
  case stop =>
    rintro D c pre W _ _ h _
    exact h.elim
theorem collect_c (Bs : Nat) (v : Int) (A : Option Addr) (nn c : Nat) (L : List (List Int)) (w : World) (hsm : nn ≤ 1000000) (hBs : Blk w Bs 24 #[.int .i64 v, .slice A nn c]) (hR : RowsSl w A nn L) :
    Calls Try.prog 37 #[.func (.func 42) #[] #[.pointer (some ⟨Bs, 0, none⟩)]] w fun e w' => ∃ A' n' c', e = .returned (.slice A' n' c') ∧ NatSl w' A' n' (setsV v L) ∧ Ext w w' := by
  have HB := Lib.hid hBs
  have HR := Lib.hid hR
  clear hBs hR
  go_enter Try.func37, Try.ntmps37
  go_wp2_with fail
  refine (appendSeq_c Bs v A nn c L _ hsm HB.out HR.out).mono ?_
  rintro e w1 ⟨A', n', c', rfl, hs, hx⟩
  have HS := Lib.hid hs
  have HX := Lib.hid hx
  clear hs hx
  go_wp2
  go_ret
  exact ⟨_, _, _, rfl, HS.out, HX.out⟩
end Go.Proofs.Ytdiapihfjmbgoaa
