/- Layer 22 (brute): the sets that are models come one by one (an iterator). -/
import Derived.Test.YtdiapihfjmbgoaaBr4
import Derived.RangeFuncNested
import Derived.RangeFuncBound
import Derived.RangeFuncCalls
import Derived.RangeFuncLeaves
import Derived.Shelf.Abstract
import Derived.Shelf.RegionOpen
import Derived.WalkKit
import Derived.OwnWalkIn
import Derived.TacticsInMore
import Derived.LoopNIn
import Derived.LoopIn
set_option maxRecDepth 100000
namespace Go.Proofs.Ytdiapihfjmbgoaa
open Go.RowKit Go.Shelf
attribute [local go_sem] Oper.semAt_some

/-- A set of at most 16 variables. -/
abbrev S16 := { m : Nat // m < 65536 }
/-- Blocks of these types stand. -/
def KT (T : TypeId → Bool) (W W' : World) : Prop := W.heap.size ≤ W'.heap.size ∧ ∀ (k : Nat) (cs : Array Value) (t : TypeId) (fz : Nat × Nat), T t = true → W.heap[k]? = some (.cells cs t fz) → W'.heap[k]? = some (.cells cs t fz)
theorem KT.refl (T : TypeId → Bool) (W : World) : KT T W W := ⟨Nat.le_refl _, fun _ _ _ _ _ h => h⟩
theorem KT.trans {T : TypeId → Bool} {A B C : World} (h : KT T A B) (k : KT T B C) : KT T A C := ⟨Nat.le_trans h.1 k.1, fun i cs t fz ht hi => k.2 i cs t fz ht (h.2 i cs t fz ht hi)⟩
theorem KT.ext {T : TypeId → Bool} {A B : World} (h : Ext A B) : KT T A B := ⟨h.size, fun k _ _ _ _ hk => (h.block k (Array.getElem?_eq_some_iff.1 hk).1).trans hk⟩
theorem KT.blk {T : TypeId → Bool} {A B : World} (h : KT T A B) {g : Nat} {t : TypeId} {cs : Array Value} (hb : Blk A g t cs) (ht : T t = true) : Blk B g t cs := h.2 g cs t (0, 0) ht hb
theorem KT.pairs {T : TypeId → Bool} {A B : World} (h : KT T A B) {g n : Nat} {pre : Nat → List Int} (hp : PairB A g n pre) (ht : T 82 = true) : PairB B g n pre := let ⟨cs, h1, h2⟩ := hp; ⟨cs, h.blk h1 ht, h2⟩
theorem ext_grown {w w' : World} (h : Ext w w') : w.grownBy w' none := ⟨h.os, h.tape, h.output, h.size, fun k hk _ => h.block k hk⟩
theorem abide_ext {β : Type} {B : Nat} {J : β → World → Prop} (hJ : AbidesFrom B J) {s : β} {w w' : World} (h : J s w) (hx : Ext w w') : J s w' := hJ s w w' none h (ext_grown hx) (fun r e => by cases e)
theorem pow_mod16 (k : Nat) (hk : k ≤ 16) : (2 : Int) ^ k % 4294967296 = ((2 ^ k : Nat) : Int) := by
  have h1 : 2 ^ k ≤ 2 ^ 16 := Nat.pow_le_pow_right (by decide) hk
  have e : (2 : Int) ^ k = ((2 ^ k : Nat) : Int) := by simp
  rw [e]
  generalize 2 ^ k = p at h1 ⊢
  omega
theorem any_fails {L : List (List Int)} {m n : Nat} (hn : n ≤ 16) (hm : m < 2 ^ n) (hL : ∀ c ∈ L, ∀ l ∈ c, l ≠ 0 ∧ -(n : Int) ≤ l ∧ l ≤ n) :
    ((List.range L.length).any fun i => failsN m (yesN (L.getD i [])) (noN (L.getD i []))) = !decide (firstV L (bitsV m n) < 0) := by
  have key : ∀ i, i < L.length → failsN m (yesN (L.getD i [])) (noN (L.getD i [])) = !holdsV (L.getD i []) (bitsV m n) := fun i hi => by
    have hg : L.getD i [] = L[i] := by rw [List.getD_eq_getElem?_getD, List.getElem?_eq_getElem hi]; rfl
    rw [hg]
    exact fails_bits hn hm (hL _ (List.getElem_mem hi))
  by_cases hf : firstV L (bitsV m n) < 0
  · rw [decide_eq_true hf]
    rw [firstV_neg] at hf
    rw [List.any_eq_false.2]
    · rfl
    · intro i hi
      have hi' := List.mem_range.1 hi
      rw [key i hi']
      have hg : L.getD i [] = L[i] := by rw [List.getD_eq_getElem?_getD, List.getElem?_eq_getElem hi']; rfl
      rw [hg, hf _ (List.getElem_mem hi')]
      decide
  · rw [decide_eq_false hf]
    have hf' : ¬ ∀ c ∈ L, holdsV c (bitsV m n) = true := fun h => hf (firstV_neg.2 h)
    obtain ⟨c, hc, h1⟩ : ∃ c, c ∈ L ∧ ¬ holdsV c (bitsV m n) = true := Classical.byContradiction fun hn => hf' (fun c hc => Classical.byContradiction fun h1 => hn ⟨c, hc, h1⟩)
    obtain ⟨i, hi, rfl⟩ := List.mem_iff_getElem.1 hc
    rw [List.any_eq_true.2]
    · rfl
    · refine ⟨i, List.mem_range.2 hi, ?_⟩
      rw [key i hi]
      have hg : L.getD i [] = L[i] := by rw [List.getD_eq_getElem?_getD, List.getElem?_eq_getElem hi]; rfl
      rw [hg]
      simpa using h1
theorem checkV_lit {l v : Int} (h : checkV l v = 0) : l ≠ 0 ∧ -v ≤ l ∧ l ≤ v := by unfold checkV at h; (repeat' split at h) <;> simp_all
theorem bCheck_lits {v : Int} {L : List (List Int)} (h : bCheckV v L = 0) : ∀ c ∈ L, ∀ l ∈ c, l ≠ 0 ∧ -v ≤ l ∧ l ≤ v := fun c hc l hl => checkV_lit ((cCheckV_ok ((fCheckV_ok (bCheck_ok h).2.2).2 c hc).1).2.2 l hl)
/-- The models below k. -/
def upN (n : Nat) (L : List (List Int)) (k : Nat) : List Nat := (List.range k).filter fun m => decide (firstV L (bitsV m n) < 0)
theorem upN_succ (n : Nat) (L : List (List Int)) (k : Nat) : upN n L (k + 1) = upN n L k ++ if firstV L (bitsV k n) < 0 then [k] else [] := by
  unfold upN
  rw [List.range_succ, List.filter_append]
  by_cases h : firstV L (bitsV k n) < 0 <;> simp [h]

theorem upN_pre (n : Nat) (L : List (List Int)) {j k : Nat} (h : j ≤ k) : ∃ t, upN n L j ++ t = upN n L k := by
  induction k with
  | zero => obtain rfl : j = 0 := by omega
            exact ⟨[], by simp⟩
  | succ k ih =>
    by_cases hj : j = k + 1
    · subst hj; exact ⟨[], by simp⟩
    · obtain ⟨t, ht⟩ := ih (by omega)
      rw [upN_succ, ← ht]
      exact ⟨_, (List.append_assoc _ _ _).symm⟩

set_option maxRecDepth 100000 in
set_option maxHeartbeats 4000000 in
theorem sets1_in (n : Nat) (hn : 1 ≤ n) (l : Nat) (Bs : Nat) (v : Int) (A : Option Addr) (nn c : Nat) (L : List (List Int)) (J Jx : List S16 → World → Prop) (W : World) (hsm : nn ≤ 1000000)
    (hB0 : W.cell? ⟨Bs, 0, none⟩ = some (.int .i64 v)) (hB1 : W.cell? ⟨Bs, 1, none⟩ = some (.slice A nn c)) (hR : RowsSl W A nn L) (hJ : AbidesFrom W.heap.size J)
    (hY : ∀ pre x W1, J pre W1 → pre.length < (setsV v L).length → YieldAt Fence.wide (n - 1) Try.prog l #[.int .u32 (x : S16).1] W1 fun e W' =>
      (e = .returned (.bool true) ∧ J (pre ++ [x]) W' ∧ KT (fun t => t == 82) W1 W') ∨ (e = .returned (.bool false) ∧ Jx (pre ++ [x]) W'))
    (h0 : J [] W) :
    CallsIn Fence.wide n Try.prog 42 #[.func (.yield l) #[] #[], .pointer (some ⟨Bs, 0, none⟩)] W fun e W' => (∃ v, e = .returned v) ∧
      ((∃ ys, ys.map Subtype.val = setsV v L ∧ J ys W') ∨ (∃ pre : List S16, (∃ k, k < (setsV v L).length ∧ pre.map Subtype.val = (setsV v L).take (k + 1)) ∧ Jx pre W')) := by
  by_cases hc : bCheckV v L = 0
  · obtain ⟨hv0, hv16, _⟩ := bCheck_ok hc
    obtain ⟨vn, rfl⟩ := Int.eq_ofNat_of_zero_le hv0
    have hlits := bCheck_lits hc
    have HS : Hid (setsV vn L = upN vn L (2 ^ vn)) := by unfold Hid setsV upN; rw [if_pos hc, Int.toNat_natCast]
    have HC := Lib.hid hc
    have hvn : vn ≤ 16 := by omega
    have hsh := pow_mod16 vn hvn
    have hp16 : 2 ^ vn ≤ 65536 := Nat.pow_le_pow_right (by decide) hvn
    have HA := Lib.hid (fun m (hm : m < 2 ^ vn) => any_fails (m := m) hvn hm hlits)
    have HB16 : Hid (∀ c ∈ L, ∀ l ∈ c, l ≠ 0 ∧ -16 ≤ l ∧ l ≤ 16) := Lib.hid fun c hc l hl => by have := hlits c hc l hl; omega
    have HYN : Hid (∀ i, i < L.length → yesN (L.getD i []) < 65536 ∧ noN (L.getD i []) < 65536) := Lib.hid fun i hi => by
      have hg : L.getD i [] = L[i] := by rw [List.getD_eq_getElem?_getD, List.getElem?_eq_getElem hi]; rfl
      rw [hg]
      have h1 := HB16.out _ (List.getElem_mem hi)
      exact ⟨yesN_lt fun l hl => (h1 l hl).2.2, noN_lt fun l hl => (h1 l hl).2.1⟩
    have hll : L.length ≤ 1000000 := by have := hR.1; omega
    clear hc hlits hv0 hv16
    obtain ⟨N, hN⟩ : ∃ N, 2 ^ vn = N := ⟨_, rfl⟩
    rw [hN] at hsh hp16 HS HA
    clear hN
    refine callsIn_of_wp Try.func42 rfl trivial ?_ rfl
    simp only [Try.ntmps42, List.size_toArray, List.length_cons, List.length_nil, Nat.reduceAdd, Nat.reduceSub, Array.replicate_succ, Array.replicate_zero, List.push_toArray, List.append_toArray, List.nil_append, List.cons_append]
    gi_wp2_with (first
      | (refine ⟨trivial, ?_⟩; gi_at_call 27; refine ((callsIn_wide (n := n - 1)).2 (bcheck_c (vn : Int) _ _ _ L _ hR)).mono ?_; rintro e w1 ⟨rfl, hx1⟩; rw [HC.out]; have b0 := hx1.cell hB0; have b1 := hx1.cell hB1; have HX1 := Lib.hid hx1; clear hx1)
      | (refine ⟨trivial, ?_⟩; gi_at_call 43; refine ((callsIn_wide (n := n - 1)).2 (pairs_c (vn : Int) _ _ _ L _ (hR.ext HX1.out) hsm HB16.out)).mono ?_; rintro e w2 ⟨g, rfl, hgw, hpb, hx2⟩; have HX2 := Lib.hid (HX1.out.trans hx2); have d0 := hx2.cell b0; have HPB := Lib.hid hpb; clear hpb hx2 b0 b1))
    have hj2 : J [] w2 := abide_ext hJ h0 HX2.out
    clear d0 hB0 hB1
    rw [hsh]
    clear hsh
    gi_loopw [4, 5, 14] (fun _ _ i wr => ∃ (k : Nat) (pre : List S16), k ≤ N ∧ i = .int .u32 k ∧ pre.map Subtype.val = upN vn L k ∧ J pre wr ∧ PairB wr g L.length (fun i => L.getD i [])) (fun _ _ i _ => N - (intOf i).toNat)
    case atStart => exact ⟨0, [], Nat.zero_le _, rfl, rfl, hj2, HPB.out⟩
    case round =>
      obtain ⟨k, pre, hk, rfl, hpre, hJs, hpb⟩ := hrel
      have HP := Lib.hid hpb
      have HPRE := Lib.hid hpre
      clear hpb hpre
      by_cases hlt : k < N
      · have hup := upN_succ vn L k
        have hany := HA.out k hlt
        have hplen : pre.length = (upN vn L k).length := by
          have h1 : (pre.map Subtype.val).length = (upN vn L k).length := by rw [HPRE.out]
          rwa [List.length_map] at h1
        have hw1 : IntKind.u32.wrap ((k : Int) + 1) = (k : Int) + 1 := IntWalk.u32_in _ (by omega)
        have hal := (Ext.refl wr).alloc (Obj.cells #[.int .u32 (k : Int)] 60)
        have hcb := cell_one wr (.int .u32 (k : Int)) 60
        have HPA := Lib.hid (HP.out.ext hal)
        cases hf : decide (firstV L (bitsV k vn) < 0) with
        | false =>
          have hf' : ¬ firstV L (bitsV k vn) < 0 := by simpa using hf
          rw [if_neg hf', List.append_nil] at hup
          rw [hf] at hany
          have HAN := Lib.hid hany
          have HUP := Lib.hid hup
          clear hup hany hf hf'
          gi_wp2_with (refine ⟨trivial, ?_⟩; gi_at_call 45; refine ((callsIn_wide (n := n - 1)).2 (hasPairs_c g L.length (fun i => L.getD i []) _ k _ HPA.out hcb (by omega) HYN.out hll)).mono ?_; rintro e w3 ⟨rfl, hx3⟩; rw [HAN.out]; have HX3 := Lib.hid hx3; clear hx3)
          refine ⟨fun _ h => (by cases h), ?_⟩
          gi_wp2
          go_roundw
          case rel => exact ⟨k + 1, pre, by omega, by go_num, by rw [HUP.out]; exact HPRE.out, abide_ext hJ hJs (hal.trans HX3.out), HPA.out.ext HX3.out⟩
          case measure => simp [intOf]; omega
        | true =>
          have hf' : firstV L (bitsV k vn) < 0 := by simpa using hf
          rw [if_pos hf'] at hup
          rw [hf] at hany
          have hlen : pre.length < (setsV vn L).length := by
            obtain ⟨t, ht⟩ := upN_pre vn L (show k + 1 ≤ N by omega)
            rw [HS.out, ← ht, hup, hplen]; simp
          have HAN := Lib.hid hany
          have HUP := Lib.hid hup
          clear hup hany hf hf'
          gi_wp2_with (refine ⟨trivial, ?_⟩; gi_at_call 45; refine ((callsIn_wide (n := n - 1)).2 (hasPairs_c g L.length (fun i => L.getD i []) _ k _ HPA.out hcb (by omega) HYN.out hll)).mono ?_; rintro e w3 ⟨rfl, hx3⟩; rw [HAN.out]; have hc3 := hx3.cell hcb; obtain ⟨fn, tmps, assign, body, hy, hR3⟩ := hY pre ⟨k, by omega⟩ w3 (abide_ext hJ hJs (hal.trans hx3)) hlen; have HX3 := Lib.hid hx3; clear hx3)
          refine hR3.mono ?_
          rintro e W4 (⟨rfl, hJ4, hkt⟩ | ⟨rfl, hJx4⟩)
          · gi_wp2
            go_roundw
            case rel => exact ⟨k + 1, pre ++ [⟨k, by omega⟩], by omega, by go_num, by rw [List.map_append, HPRE.out, HUP.out]; rfl, hJ4, hkt.pairs (HPA.out.ext HX3.out) rfl⟩
            case measure => simp [intOf]; omega
          · gi_wp2
            refine bodyPost_ret (results_none rfl _ _ _) rfl ?_
            obtain ⟨t, ht⟩ := upN_pre vn L (show k + 1 ≤ N by omega)
            refine ⟨⟨_, rfl⟩, .inr ⟨_, ⟨(upN vn L k).length, ?_, ?_⟩, hJx4⟩⟩
            · rw [HS.out, ← ht, HUP.out]; simp
            · rw [HS.out, ← ht, HUP.out, List.map_append, HPRE.out]
              exact (List.take_left' (by simp)).symm
      · obtain rfl : k = N := by omega
        gi_wp2
        go_end0
        exact ⟨⟨_, rfl⟩, .inl ⟨pre, by rw [HS.out]; exact HPRE.out, hJs⟩⟩
  · have hne : (bCheckV v L != 0) = true := by simpa using hc
    have HS : Hid (setsV v L = []) := by unfold Hid setsV; rw [if_neg hc]
    clear hc
    refine callsIn_of_wp Try.func42 rfl trivial ?_ rfl
    simp only [Try.ntmps42, List.size_toArray, List.length_cons, List.length_nil, Nat.reduceAdd, Nat.reduceSub, Array.replicate_succ, Array.replicate_zero, List.push_toArray, List.append_toArray, List.nil_append, List.cons_append]
    gi_wp2_with (refine ⟨trivial, ?_⟩; gi_at_call 27; refine ((callsIn_wide (n := n - 1)).2 (bcheck_c v _ _ _ L _ hR)).mono ?_; rintro e w1 ⟨rfl, hx1⟩)
    refine bodyPost_ret (results_none rfl _ _ _) rfl ?_
    exact ⟨⟨_, rfl⟩, .inl ⟨[], by rw [HS.out]; rfl, abide_ext hJ h0 hx1⟩⟩

theorem setsV_len (v : Int) (L : List (List Int)) : (setsV v L).length ≤ 65536 := by
  unfold setsV
  by_cases h : bCheckV v L = 0
  · rw [if_pos h]
    obtain ⟨h1, h2, _⟩ := bCheck_ok h
    refine Nat.le_trans (List.length_filter_le _ _) ?_
    rw [List.length_range]
    have h3 : v.toNat ≤ 16 := by omega
    exact (Nat.pow_le_pow_right (by decide) h3 : 2 ^ v.toNat ≤ 2 ^ 16)
  · rw [if_neg h]; exact Nat.zero_le _
theorem sets_c (v : Int) (A : Option Addr) (n c : Nat) (w : World) : Calls Try.prog 26 #[.agg #[.int .i64 v, .slice A n c]] w fun e w' => e = .returned (.func (.func 42) #[] #[.pointer (some ⟨w.heap.size, 0, none⟩)]) ∧ w' = w.alloc (Obj.cells #[.int .i64 v, .slice A n c] 24) := by
  go_enter Try.func26, Try.ntmps26
  go_wp2
  go_ret
  exact ⟨rfl, rfl⟩
/-- All models come, in order; or the first k + 1. -/
theorem sets_stops (n : Nat) (hn : 1 ≤ n) (Bs : Nat) (v : Int) (A : Option Addr) (nn c : Nat) (L : List (List Int)) (w : World) (hsm : nn ≤ 1000000) (hB : Blk w Bs 24 #[.int .i64 v, .slice A nn c]) (hR : RowsSl w A nn L) :
    SeqStopsK Fence.wide n Try.prog 42 #[.pointer (some ⟨Bs, 0, none⟩)] (fun x : S16 => #[Value.int .u32 x.1]) (KT (fun t => t == 82)) (fun ys => ys.map Subtype.val = setsV v L) (fun pre => ∃ k, k < (setsV v L).length ∧ pre.map Subtype.val = (setsV v L).take (k + 1)) (setsV v L).length w := fun l J Jx W hW hJ _ hY h0 => by
  have hx : Ext w W := hW
  have hb := hB.ext hx
  refine (sets1_in n hn l Bs v A nn c L J Jx W hsm (hb.cell 0) (hb.cell 1) (hR.ext hx) hJ hY h0).mono ?_
  rintro e W' ⟨he, ⟨ys, h1, h2⟩ | ⟨pre, h1, h2⟩⟩
  · exact ⟨he, .inl ⟨ys, h1, h2⟩⟩
  · exact ⟨he, .inr ⟨pre, h1, h2⟩⟩
end Go.Proofs.Ytdiapihfjmbgoaa
