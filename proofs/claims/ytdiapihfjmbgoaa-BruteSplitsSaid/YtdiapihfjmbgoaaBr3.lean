/- Layer 22 (brute): clauses as pairs of sets. -/
import Derived.Test.YtdiapihfjmbgoaaBr2
import Derived.BigRegion
set_option maxRecDepth 100000
namespace Go.Proofs.Ytdiapihfjmbgoaa
open Go.RowKit

/-- The block holds the pairs of the clauses pre 0, pre 1, .. -/
def PairB (w : World) (g n : Nat) (pre : Nat → List Int) : Prop :=
  ∃ cs, Blk w g 82 cs ∧ cs.size = n * 2 ∧ ∀ i, i < n → cs[i * 2]? = some (.int .u32 (yesN (pre i) : Nat)) ∧ cs[i * 2 + 1]? = some (.int .u32 (noN (pre i) : Nat))
def upd (pre : Nat → List Int) (k : Nat) (c : List Int) (i : Nat) : List Int := if i = k then c else pre i
theorem upd_self (pre : Nat → List Int) (k : Nat) : upd pre k (pre k) = pre := by funext i; unfold upd; split <;> simp_all
theorem upd_at (pre : Nat → List Int) (k : Nat) (c : List Int) : upd pre k c k = c := by simp [upd]
theorem upd_upd (pre : Nat → List Int) (k : Nat) (c d : List Int) : upd (upd pre k c) k d = upd pre k d := by funext i; unfold upd; split <;> rfl
section
variable {w w' : World} {g n : Nat} {pre : Nat → List Int}
theorem PairB.ext (h : PairB w g n pre) (hx : Ext w w') : PairB w' g n pre := let ⟨cs, h1, h2⟩ := h; ⟨cs, h1.ext hx, h2⟩
theorem PairB.cells (h : PairB w g n pre) {i : Nat} (hi : i < n) : w.cell? ⟨g, i * 2, none⟩ = some (.int .u32 (yesN (pre i) : Nat)) ∧ w.cell? ⟨g, i * 2 + 1, none⟩ = some (.int .u32 (noN (pre i) : Nat)) := by
  obtain ⟨cs, h1, _, h2⟩ := h
  exact ⟨(h1.cell _).trans (h2 i hi).1, (h1.cell _).trans (h2 i hi).2⟩
theorem PairB.frozen (h : PairB w g n pre) (i : Nat) : w.frozen? ⟨g, i, none⟩ = false := let ⟨_, h1, _⟩ := h; h1.frozen i
theorem PairB.yes (h : PairB w g n pre) {k : Nat} (hk : k < n) {c : List Int} (hc : noN c = noN (pre k)) : PairB (w.setCell ⟨g, k * 2, none⟩ (.int .u32 (yesN c : Nat))) g n (upd pre k c) := by
  obtain ⟨cs, h1, h0, h2⟩ := h
  refine ⟨_, h1.set_ (k * 2) _, by simp [h0], fun i hi => ?_⟩
  obtain ⟨a, b⟩ := h2 i hi
  by_cases e : i = k
  · subst e
    rw [upd_at, hc]
    refine ⟨by rw [Array.getElem?_setIfInBounds_self_of_lt (by omega)], ?_⟩
    rw [Array.getElem?_setIfInBounds_ne (by omega)]
    exact b
  · have hu : upd pre k c i = pre i := by unfold upd; rw [if_neg e]
    rw [hu, Array.getElem?_setIfInBounds_ne (by omega), Array.getElem?_setIfInBounds_ne (by omega)]
    exact ⟨a, b⟩
theorem PairB.no (h : PairB w g n pre) {k : Nat} (hk : k < n) {c : List Int} (hc : yesN c = yesN (pre k)) : PairB (w.setCell ⟨g, k * 2 + 1, none⟩ (.int .u32 (noN c : Nat))) g n (upd pre k c) := by
  obtain ⟨cs, h1, h0, h2⟩ := h
  refine ⟨_, h1.set_ (k * 2 + 1) _, by simp [h0], fun i hi => ?_⟩
  obtain ⟨a, b⟩ := h2 i hi
  by_cases e : i = k
  · subst e
    rw [upd_at, hc]
    refine ⟨?_, by rw [Array.getElem?_setIfInBounds_self_of_lt (by omega)]⟩
    rw [Array.getElem?_setIfInBounds_ne (by omega)]
    exact a
  · have hu : upd pre k c i = pre i := by unfold upd; rw [if_neg e]
    rw [hu, Array.getElem?_setIfInBounds_ne (by omega), Array.getElem?_setIfInBounds_ne (by omega)]
    exact ⟨a, b⟩
end
theorem infoPair : (Try.prog.info? 82).map (fun i => (i.zero, i.size, i.bytes)) = some (some (.agg #[.int .u32 0, .int .u32 0]), 2, 8) := by kernel_rfl
theorem PairB.new (w : World) (n : Nat) : PairB (w.alloc (.cells (madeCells #[.int .u32 0, .int .u32 0] (n * 2)) 82)) w.heap.size n (fun _ => []) := by
  refine ⟨_, Blk.new w _ _, size_madeCells _ _, fun i hi => ?_⟩
  have h0 : ∀ j, j < n * 2 → (madeCells #[Value.int .u32 0, .int .u32 0] (n * 2))[j]? = some (.int .u32 0) := fun j hj => by
    have : j % 2 = 0 ∨ j % 2 = 1 := by omega
    rcases this with e | e <;> simp [madeCells, hj, e]
  exact ⟨h0 _ (by omega), h0 _ (by omega)⟩
theorem yesN_lt {c : List Int} (h : ∀ l ∈ c, l ≤ 16) : yesN c < 65536 := by
  revert h
  refine foldl_snoc_ind (P := fun c => (∀ l ∈ c, l ≤ 16) → yesN c < 65536) (fun _ => by simp [yesN]) (fun xs x ih h => ?_) c
  have h1 := ih (fun l hl => h l (by simp [hl]))
  have h2 := h x (by simp)
  rw [yesN_snoc]
  by_cases hp : 0 < x
  · rw [if_pos hp]
    exact Nat.or_lt_two_pow (n := 16) h1 (Nat.pow_lt_pow_right (by decide) (by omega))
  · rw [if_neg hp]; exact h1
theorem noN_lt {c : List Int} (h : ∀ l ∈ c, -16 ≤ l) : noN c < 65536 := by
  revert h
  refine foldl_snoc_ind (P := fun c => (∀ l ∈ c, -16 ≤ l) → noN c < 65536) (fun _ => by simp [noN]) (fun xs x ih h => ?_) c
  have h1 := ih (fun l hl => h l (by simp [hl]))
  have h2 := h x (by simp)
  rw [noN_snoc]
  by_cases hp : 0 < x
  · rw [if_pos hp]; exact h1
  · rw [if_neg hp]
    exact Nat.or_lt_two_pow (n := 16) h1 (Nat.pow_lt_pow_right (by decide) (by omega))
theorem pow_mod (k : Nat) (hk : k < 16) : (2 : Int) ^ k % 4294967296 = ((2 ^ k : Nat) : Int) := by
  have h1 : 2 ^ k < 2 ^ 16 := Nat.pow_lt_pow_right (by decide) hk
  have e : (2 : Int) ^ k = ((2 ^ k : Nat) : Int) := by simp
  rw [e]
  generalize 2 ^ k = p at h1 ⊢
  omega
theorem or_yes {c : List Int} {l : Int} (hp : 0 < l) (hl : l ≤ 16) (hc : yesN c < 65536) : bits .or .u32 (yesN c : Nat) (2 ^ (l.toNat - 1) % 4294967296) = (yesN (c ++ [l]) : Nat) := by
  have h1 : 2 ^ (l.toNat - 1) < 2 ^ 16 := Nat.pow_lt_pow_right (by decide) (by omega)
  rw [pow_mod _ (by omega), u32_or _ _ (by omega) (by omega), yesN_snoc, if_pos hp, show (l - 1).toNat = l.toNat - 1 by omega]
theorem or_no {c : List Int} {l : Int} (hp : l < 0) (hl : -16 ≤ l) (hc : noN c < 65536) : bits .or .u32 (noN c : Nat) (2 ^ ((-l).toNat - 1) % 4294967296) = (noN (c ++ [l]) : Nat) := by
  have h1 : 2 ^ ((-l).toNat - 1) < 2 ^ 16 := Nat.pow_lt_pow_right (by decide) (by omega)
  rw [pow_mod _ (by omega), u32_or _ _ (by omega) (by omega), noN_snoc, if_neg (by omega), show (-l - 1).toNat = (-l).toNat - 1 by omega]
theorem take_upd {L : List (List Int)} {k : Nat} {c : List Int} (h : L[k]? = some c) : upd (fun i => if i < k then L.getD i [] else []) k c = fun i => if i < k + 1 then L.getD i [] else [] := by
  funext i
  unfold upd
  by_cases e : i = k
  · subst e
    rw [if_pos rfl, if_pos (by omega), List.getD_eq_getElem?_getD, h]; rfl
  · rw [if_neg e]
    dsimp only
    by_cases hi : i < k
    · rw [if_pos hi, if_pos (by omega)]
    · rw [if_neg hi, if_neg (by omega)]
/-- What 'pairs' hands back. -/
def RetPairs (L : List (List Int)) (w : World) (e : Ending) (w' : World) : Prop := ∃ g, e = .returned (.slice (some ⟨g, 0, none⟩) L.length L.length) ∧ w.heap.size ≤ g ∧ PairB w' g L.length (fun i => L.getD i []) ∧ Ext w w'

set_option maxRecDepth 100000 in
set_option maxHeartbeats 4000000 in
theorem pairs_c (v : Int) (A : Option Addr) (n c : Nat) (L : List (List Int)) (w : World) (h : RowsSl w A n L) (hsm : n ≤ 1000000) (hb : ∀ c ∈ L, ∀ l ∈ c, l ≠ 0 ∧ -16 ≤ l ∧ l ≤ 16) :
    Calls Try.prog 43 #[.agg #[.int .i64 v, .slice A n c]] w (RetPairs L w) := by
  have hX := (Ext.refl w).alloc (Obj.cells #[.int .i64 v, .slice A n c] 24)
  have hB := Blk.new w 24 #[.int .i64 v, .slice A n c]
  have a1 : (w.alloc (Obj.cells #[.int .i64 v, .slice A n c] 24)).cell? ⟨w.heap.size, 1, none⟩ = some (.slice A n c) := hB.cell 1
  have q1 := fun o => (((Ext.refl _).alloc o).cell a1)
  have HR := Lib.hid (h.ext hX)
  have HX := Lib.hid hX
  have hln := h.1
  obtain ⟨i0, hi, hz0, hz1, hz2⟩ := info_parts infoPair
  have hmk := fun W => run_make_rowN (P := Try.prog) 79 82 i0 _ (by kernel_rfl) hi hz0 .i64 .i64 n n (Nat.le_refl _) (by rw [hz2]; omega) (by omega) W
  rw [hz1, show (Value.agg #[Value.int .u32 0, .int .u32 0]).cells = #[Value.int .u32 0, .int .u32 0] from rfl] at hmk
  have HBD := Lib.hid hb
  have hR0 := h
  clear hX hB h hi hz0 hz1 hz2 hb
  go_enter Try.func43, Try.ntmps43
  go_wp2
  have hx1 := HX.out.alloc (Obj.cells (madeCells #[.int .u32 0, .int .u32 0] (n * 2)) 82)
  have hp1 := PairB.new (w.alloc (Obj.cells #[.int .i64 v, .slice A n c] 24)) n
  rw [World.size_alloc] at hp1
  generalize (w.alloc (Obj.cells #[.int .i64 v, .slice A n c] 24)).alloc (Obj.cells (madeCells #[.int .u32 0, .int .u32 0] (n * 2)) 82) = w2 at hx1 hp1 ⊢
  clear a1 q1
  have HX1 := Lib.hid hx1
  have HP1 := Lib.hid hp1
  obtain ⟨g, hg⟩ : ∃ g, w.heap.size + 1 = g := ⟨_, rfl⟩
  have hgw : w.heap.size ≤ g := by omega
  rw [hg] at HP1 ⊢
  have HRW := Lib.hid hR0
  clear hx1 hp1 hg hR0
  go_loopw [4, 5, 7, 15] (fun _ _ _ i wr => ∃ k : Nat, k ≤ n ∧ i = .int .i64 k ∧ PairB wr g n (fun i => if i < k then L.getD i [] else []) ∧ Ext w wr) (fun _ _ _ i _ => n - (intOf i).toNat)
  case atStart => exact ⟨0, Nat.zero_le _, rfl, by simpa using HP1.out, HX1.out⟩
  case round =>
    obtain ⟨k, hk, rfl, hp, hx⟩ := hrel
    have HP := Lib.hid hp
    have HXR := Lib.hid hx
    clear hp hx
    by_cases hlt : k < n
    · obtain ⟨ad, cl, A', n', c', rfl, hcl, hcc0, hsl⟩ := HRW.out.at_ hlt
      have hcc := HXR.out.cell hcc0
      have HSL := Lib.hid hsl
      have hbd := HBD.out cl (List.mem_of_getElem? hcl.out)
      have HB := Lib.hid hbd
      have hnl := hsl.1
      have hnm := hsl.len
      clear hsl hbd
      go_wp2
      go_loopw [7, 22] (fun _ i wj => ∃ j : Nat, j ≤ n' ∧ i = .int .i64 j ∧ PairB wj g n (upd (fun i => if i < k then L.getD i [] else []) k (cl.take j)) ∧ Ext w wj) (fun _ i _ => n' - (intOf i).toNat)
      case atStart => exact ⟨0, Nat.zero_le _, rfl, by
        have e : upd (fun i => if i < k then L.getD i [] else []) k (cl.take 0) = (fun i => if i < k then L.getD i [] else []) := by
          have := upd_self (fun i => if i < k then L.getD i [] else []) k
          simpa using this
        rw [e]; exact HP.out, HXR.out⟩
      case round =>
        obtain ⟨j, hj, rfl, hpj, hxj⟩ := hrel
        have HPJ := Lib.hid hpj
        have HXJ := Lib.hid hxj
        clear hpj hxj
        by_cases hjl : j < n'
        · obtain ⟨ad', l, rfl, hl, hcl2, hl1, hl2⟩ := (HSL.out.ext HXJ.out).at_ hjl
          obtain ⟨hlz, hlb1, hlb2⟩ := HB.out l (List.mem_of_getElem? hl.out)
          obtain ⟨y0, y1⟩ := HPJ.out.cells hlt
          have f0 := HPJ.out.frozen (k * 2)
          have f1 := HPJ.out.frozen (k * 2 + 1)
          rw [upd_at] at y0 y1
          have hyb := yesN_lt (c := cl.take j) (fun l hl => by have := HB.out l (List.mem_of_mem_take hl); omega)
          have hnb := noN_lt (c := cl.take j) (fun l hl => by have := HB.out l (List.mem_of_mem_take hl); omega)
          have htk := take_succ_of hl.out
          by_cases hp : 0 < l
          · have HE := Lib.hid (or_yes (c := cl.take j) hp (by omega) hyb)
            have HPN := Lib.hid (HPJ.out.yes hlt (c := cl.take (j + 1)) (by rw [upd_at, htk, noN_snoc, if_pos hp]))
            have HT := Lib.hid htk
            clear htk hyb hnb
            go_wp2
            go_region
            rw [HE.out, ← HT.out]
            go_wp2
            go_roundw
            case rel => exact ⟨j + 1, by omega, by go_num, by rw [← upd_upd _ k (cl.take j)]; exact HPN.out.ext (Ext.refl _).drew, (HXJ.out.setCell hgw _).drew⟩
            case measure => simp [intOf]; omega
          · have hp2 : l < 0 := by omega
            have HE := Lib.hid (or_no (c := cl.take j) hp2 (by omega) hnb)
            have HPN := Lib.hid (HPJ.out.no hlt (c := cl.take (j + 1)) (by rw [upd_at, htk, yesN_snoc, if_neg hp]))
            have HT := Lib.hid htk
            have hw1 : IntKind.i64.wrap (-l) = -l := IntWalk.i64_in _ (by omega)
            clear htk hyb hnb
            go_wp2
            go_region
            rw [HE.out, ← HT.out]
            go_wp2
            go_roundw
            case rel => exact ⟨j + 1, by omega, by go_num, by rw [← upd_upd _ k (cl.take j)]; exact HPN.out.ext (Ext.refl _).drew, (HXJ.out.setCell hgw _).drew⟩
            case measure => simp [intOf]; omega
        · obtain rfl : j = n' := by omega
          have hpj := HPJ.out
          rw [List.take_of_length_le (by omega), take_upd hcl.out] at hpj
          have HPK := Lib.hid hpj
          clear hpj
          go_wp2
          go_roundw
          case rel => exact ⟨k + 1, by omega, by go_num, HPK.out, HXJ.out⟩
          case measure => simp [intOf]; omega
    · obtain rfl : k = n := by omega
      have hpk := HP.out
      have HLN := Lib.hid hln
      go_wp2
      go_ret
      refine ⟨g, by rw [HLN.out]; rfl, hgw, ?_, HXR.out⟩
      rw [HLN.out]
      obtain ⟨cs, h1, h2, h3⟩ := hpk
      exact ⟨cs, h1, h2, fun i hi => by have := h3 i hi; simpa [hi] using this⟩
end Go.Proofs.Ytdiapihfjmbgoaa
