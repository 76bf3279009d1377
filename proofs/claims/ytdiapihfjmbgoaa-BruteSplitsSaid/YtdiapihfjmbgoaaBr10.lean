/- Layer 22 (brute): what is told is kept in a slice of truths (law22.all's closure). -/
import Derived.Test.YtdiapihfjmbgoaaBr9
set_option maxRecDepth 100000
namespace Go.Proofs.Ytdiapihfjmbgoaa
open Go.RowKit Go.Shelf
attribute [local go_sem] Oper.semAt_some

/-- Truths that fill a block of bools. -/
def RowB (w : World) (A : Option Addr) (n : Nat) (xs : List Bool) : Prop := ∃ g cs, A = some ⟨g, 0, none⟩ ∧ Blk w g 4 cs ∧ xs.length = n ∧ n ≤ 9223372036854775807 ∧ ∀ (j : Nat) (x : Bool), xs[j]? = some x → cs[j]? = some (Value.bool x)
section
variable {w w' : World} {A : Option Addr} {n : Nat} {xs : List Bool}
theorem RowB.sl (h : RowB w A n xs) : BoolSl w A n xs := by
  obtain ⟨g, cs, rfl, hb, h1, h2, h3⟩ := h
  exact hb.bools h1 h2 h3
theorem RowB.kt {T : TypeId → Bool} (h : RowB w A n xs) (hk : KT T w w') (hT : T 4 = true) : RowB w' A n xs := by
  obtain ⟨g, cs, rfl, hb, h1, h2, h3⟩ := h
  exact ⟨g, cs, rfl, hk.blk hb hT, h1, h2, h3⟩
theorem RowB.ext (h : RowB w A n xs) (hx : Ext w w') : RowB w' A n xs := h.kt (T := fun _ => true) (KT.ext hx) rfl
end
theorem rowB_own {β : Type} (A : β → Option Addr) (n : β → Nat) (xs : β → List Bool) : Own (fun s W => RowB W (A s) (n s) (xs s)) := by
  rintro s X Y row ⟨g, cs, e, hb, h1, h2, h3⟩ hg hrow
  exact ⟨g, cs, e, blk_own g _ (fun (_ : Unit) => cs) () X Y row hb hg hrow, h1, h2, h3⟩

set_option maxHeartbeats 2000000 in
theorem btruthsR_c (m n : Nat) (w : World) (hn : n ≤ 16) (hm : m < 2 ^ 16) :
    Calls Try.prog 29 #[.int .u32 m, .int .i64 n] w fun e w' => ∃ A k c, e = .returned (.slice A k c) ∧ RowB w' A k (bitsV m n) ∧ Ext w w' := by
  obtain ⟨i0, hi, hz0, hz1, hz2⟩ := info_parts infoBool
  have hmk := fun W => run_make_rowN (P := Try.prog) 33 4 i0 _ Try.underlying33 hi hz0 .i64 .i64 n n (Nat.le_refl _) (by rw [hz2]; omega) (by omega) W
  rw [hz1, Nat.mul_one, show (Value.bool false).cells = #[Value.bool false] from rfl] at hmk
  clear hi hz0 hz1 hz2
  go_enter Try.func29, Try.ntmps29
  go_wp2
  go_loopw [6, 11] (fun _ i wr => ∃ k : Nat, k ≤ n ∧ i = .int .i64 k ∧ Blk wr w.heap.size 4 (fillG (fun j => .bool (m.testBit j)) (.bool false) n k) ∧ Ext w wr) (fun _ i _ => n - (intOf i).toNat)
  case atStart =>
    refine ⟨0, Nat.zero_le _, rfl, ?_, (Ext.refl _).alloc _⟩
    rw [fillG_zero]
    exact Blk.new w 4 (madeCells #[Value.bool false] n)
  case round =>
    obtain ⟨k, hk, rfl, hb, hx⟩ := hrel
    have HB := Lib.hid hb
    have HX := Lib.hid hx
    clear hb hx
    by_cases hlt : k < n
    · have hcell := (HB.out.cell k).trans (fillG_at _ _ n k k hlt)
      have hfr := HB.out.frozen k
      simp only [Nat.lt_irrefl, if_false] at hcell
      go_wp2
      go_roundw
      case rel =>
        refine ⟨k + 1, by omega, by go_num, ?_, HX.out.setCell (Nat.le_refl _) _⟩
        rw [u32_bit m k hm]
        have := HB.out.set_ k (.bool (m.testBit k))
        rw [fillG_set (fun j => .bool (m.testBit j)) _ n k hlt] at this
        exact this
      case measure => simp [intOf]; omega
    · obtain rfl : k = n := by omega
      go_wp2
      go_ret
      exact ⟨_, _, _, rfl, ⟨_, _, rfl, HB.out, bitsV_len m k, by omega, fun j x hj => by
        have hjk : j < k := by have := (List.getElem?_eq_some_iff.1 hj).1; rwa [bitsV_len] at this
        rw [fillG_at _ _ k k j hjk, if_pos hjk]
        rw [bitsV_get m hjk] at hj
        cases hj; rfl⟩, HX.out⟩

theorem infoB1 : (Try.prog.info? 33).map (fun i => (i.zero, i.size, i.bytes)) = some (some (.slice none 0 0), 1, 24) := by kernel_rfl
theorem eltB : Elt 27 33 (.slice none 0 0) 1 24 := ⟨Try.underlying27, infoB1, rfl, by decide, by decide⟩
theorem cell_sl1 (w : World) (x : Value) (t : TypeId) : SlV (w.alloc (.cells #[x] t)) (some ⟨w.heap.size, 0, none⟩) 1 1 [x] := SlV.one (cell_one_new w x t) rfl
/-- The types that telling does not turn. -/
def TK (t : TypeId) : Bool := t == 82 || t == 24 || t == 65 || t == 4

set_option maxHeartbeats 2000000 in
theorem tell1_c (O M base : Nat) (u : Value) (vs : List Value) (most : Int) (A : Option Addr) (k c : Nat) (W : World) (hO : Boxed W O 27 u) (hu : W.ownsRow base 33 1 u vs.length vs) (hM : Boxed W M 3 (.int .i64 most)) (hbO : base ≤ O) (hbW : base ≤ W.heap.size) (hsm : vs.length ≤ 100000) :
    Calls Try.prog 31 #[.slice A k c, .pointer (some ⟨O, 0, none⟩), .pointer (some ⟨M, 0, none⟩)] W fun e W' => e = .returned (.bool (decide ((vs.length : Int) + 1 < most))) ∧
      ∃ u', Boxed W' O 27 u' ∧ W'.ownsRow base 33 1 u' (vs.length + 1) (vs ++ [.slice A k c]) ∧ Boxed W' M 3 (.int .i64 most) ∧ KT TK W W' ∧ KeepsOthers W W' ∧ Below base W W' := by
  have hc := hO.cell
  have hm := hM.cell
  go_enter Try.func31, Try.ntmps31
  have hMO : M ≠ O := by
    rintro rfl
    have := (show W.heap[M]? = _ from hM).symm.trans hO
    simp at this
  have hne := hM.not_row (e := 33) (by decide) hu
  go_wp2_with (at_builtin; refine appendV eltB _ rfl (.tmp 5) (.tmp 7) rfl base u vs.length vs rfl (OwnV.alloc hu _) (some ⟨W.heap.size, 0, none⟩) 1 1 [.slice A k c] rfl (cell_sl1 _ _ _) ?_ ?_ ?_ ?_; exact (by intro x hx; cases hx with | head => rfl | tail _ h => cases h); omega; (rw [World.size_alloc]; omega); intro v' w1 hown' hgrow _; obtain ⟨g', cap', rfl⟩ := ownsRow_succ hown'; obtain ⟨hv1, hv2, hr2, hk2, hb2⟩ := hO.appended (by decide) hu hbW hbO hown' hgrow; have hkt := (KT.ext ((Ext.refl W).alloc _)).trans (KT.own (T := TK) (World.ownsRow.alloc hu _) rfl hgrow); have hc1 := hv1.cell; have hf1 := hv1.frozen; have hM1 := (hM.alloc _).kept hgrow hne; have hm1 := (hM1.other hMO (.slice (some ⟨g', 0, none⟩) (vs.length + 1) cap')).cell; have HM1 := Lib.hid (hM1.other hMO (.slice (some ⟨g', 0, none⟩) (vs.length + 1) cap')))
  go_ret
  exact ⟨ret_bool (by simp), _, hv2, hr2, HM1.out, hkt.trans (KT.setCell (cs := #[u]) hv1 rfl 0 _), hk2, hb2⟩
end Go.Proofs.Ytdiapihfjmbgoaa
