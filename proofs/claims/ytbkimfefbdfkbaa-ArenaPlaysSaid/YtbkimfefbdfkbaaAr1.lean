/- Layer 12 (arena): how an arena lies in memory; what only reads it. -/
import Derived.Test.YtbkimfefbdfkbaaArP
import Derived.Test.YtbkimfefbdfkbaaRowI
import Derived.Test.YtbkimfefbdfkbaaMap
import Derived.Test.YtbkimfefbdfkbaaStill
import Derived.BigQuiet
set_option maxRecDepth 100000
namespace Go.Proofs.Ytbkimfefbdfkbaa
open Go.RowKit

structure ArMem (w : World) (base p mb : Nat) (lv : Value) (K : Nat) (S : ASt) : Prop where
  blk : Blk w p 96 #[lv, .map (some mb)]
  row : RowI w base lv (flatA S.rows)
  heads : Cnt w mb K (headA S.rows)
  bp : base ≤ p
  bm : base ≤ mb
  inv : AInv S
  sm : S.rows.length ≤ K
  sk : K ≤ 1000000
section
variable {w w' : World} {base p mb K : Nat} {lv : Value} {S : ASt}
theorem ArMem.ext (h : ArMem w base p mb lv K S) (hx : Ext w w') : ArMem w' base p mb lv K S :=
  ⟨h.blk.ext hx, h.row.ext hx, h.heads.ext hx, h.bp, h.bm, h.inv, h.sm, h.sk⟩
theorem ArMem.len (h : ArMem w base p mb lv K S) : (flatA S.rows).length ≤ 1003000000 := by
  have h1 := arow_len h.inv
  have h2 := h.sm
  have h3 := h.sk
  omega
theorem ArMem.sl (h : ArMem w base p mb lv K S) : ∃ A c, lv = .slice A (flatA S.rows).length c ∧ IntSl w A (flatA S.rows).length (flatA S.rows) ∧ (flatA S.rows).length ≤ c :=
  h.row.sl (by have := h.len; omega) (arow_bd h.inv)
/-- A row that is there. -/
theorem ArMem.at_ (h : ArMem w base p mb lv K S) {x : Int} {r : ARow} (hr : S.rows.find? (atP x) = some r) :
    ∃ g cap i j, Hid (S.rows.findIdx? (atP x) = some i ∧ S.rows[i]? = some r ∧ j = (flatA (S.rows.take i)).length ∧ r.live = true) ∧ lv = .slice (some ⟨g, 0, none⟩) (flatA S.rows).length cap ∧ (flatA S.rows).length ≤ cap ∧ x = (j : Int) ∧ j + 3 + r.lits.length ≤ (flatA S.rows).length ∧
      w.cell? ⟨g, j, none⟩ = some (.int .i64 r.id) ∧ w.cell? ⟨g, j + 1, none⟩ = some (.int .i64 (r.lits.length : Nat)) ∧ w.cell? ⟨g, j + 2, none⟩ = some (.int .i64 (if r.learnt then 1 else 0)) ∧
      (∀ (k : Nat) (y : Int), r.lits[k]? = some y → w.cell? ⟨g, j + 3 + k, none⟩ = some (.int .i64 y)) ∧ ∀ k, w.frozen? ⟨g, k, none⟩ = false := by
  obtain ⟨i, hi, hri, hp, hl⟩ := find_at hr
  have hle := arow_le hri
  rw [encR_len] at hle
  obtain ⟨g, cap, e, hc, hcell, hf⟩ := h.row.full (by omega)
  have hat : ∀ (k : Nat) (y : Int), (encR r)[k]? = some y → w.cell? ⟨g, (flatA (S.rows.take i)).length + k, none⟩ = some (.int .i64 y) := fun k y hk => hcell _ _ (by rw [arow_at hri (List.getElem?_eq_some_iff.1 hk).1]; exact hk)
  have hs : sideA r = if r.learnt then 1 else 0 := by unfold sideA; rw [hl]; rfl
  refine ⟨g, cap, i, _, Lib.hid ⟨hi, hri, rfl, hl⟩, e, hc, by rw [← hp]; exact h.inv.pos i r hri, by omega, hat 0 _ rfl, hat 1 _ rfl, ?_, fun k y hk => ?_, hf⟩
  · rw [← hs]; exact hat 2 _ rfl
  · rw [Nat.add_assoc]
    refine hat (3 + k) y ?_
    rw [Nat.add_comm 3 k]
    exact hk
end

theorem arMade_c (p mb : Nat) (w : World) (h : w.cell? ⟨p, 1, none⟩ = some (.map (some mb))) :
    Calls Try.prog 66 #[.pointer (some ⟨p, 0, none⟩)] w fun e w' => e = .returned (.bool true) ∧ w = w' := by
  have hb : ∀ W : World, (binOp .neq 94 (.map (some mb)) (.map none)).run Try.prog W = .ok (.bool true) W := fun _ => by kernel_rfl
  go_enter Try.func66, Try.ntmps66
  go_wp2
  go_ret
  exact ⟨rfl, rfl⟩
theorem arMadeNil_c (w : World) :
    Calls Try.prog 66 #[.pointer none] w fun e w' => e = .returned (.bool false) ∧ w = w' := by
  go_enter Try.func66, Try.ntmps66
  go_wp2
  go_ret
  exact ⟨rfl, rfl⟩

theorem arIs_c (w : World) (base p mb : Nat) (lv : Value) (K : Nat) (S : ASt) (x : Int) (h : ArMem w base p mb lv K S) (hx : -9223372036854775808 ≤ x ∧ x ≤ 9223372036854775807) :
    Calls Try.prog 63 #[.pointer (some ⟨p, 0, none⟩), .int .i64 x] w fun e w' => e = .returned (.bool (decide (0 < headA S.rows x))) ∧ w = w' := by
  have c1 := h.blk.cell 1
  have hrun := h.heads.run x hx
  generalize headA S.rows x = z at hrun ⊢
  go_enter Try.func63, Try.ntmps63
  go_wp2_with (go_at_call 66; refine (arMade_c _ _ _ c1).mono ?_; rintro e w' ⟨rfl, rfl⟩)
  go_ret
  exact ⟨rfl, rfl⟩
theorem arWhy_c (w : World) (base p mb : Nat) (lv : Value) (K : Nat) (S : ASt) (x : Int) (h : ArMem w base p mb lv K S) (hx : -9223372036854775808 ≤ x ∧ x ≤ 9223372036854775807) :
    Calls Try.prog 65 #[.pointer (some ⟨p, 0, none⟩), .int .i64 x] w fun e w' => e = .returned (.int .i64 (dropE S x)) ∧ w = w' := by
  have c1 := h.blk.cell 1
  have hrun := h.heads.run x hx
  have hz := head_pos h.inv x
  by_cases h0 : headA S.rows x = 0
  · have HR : Hid (dropE S x = 20) := by unfold Hid dropE; rw [hz.1 h0]
    rw [h0] at hrun
    clear hz h0
    go_enter Try.func65, Try.ntmps65
    go_wp2_with (go_at_call 66; refine (arMade_c _ _ _ c1).mono ?_; rintro e w' ⟨rfl, rfl⟩)
    go_ret
    exact ⟨ret_int HR.out.symm, rfl⟩
  · have HR : Hid (dropE S x = 0) := by
      unfold Hid dropE
      cases e : S.rows.find? (atP x) with
      | none => exact absurd (hz.2 e) h0
      | some r => rfl
    have hb : (headA S.rows x == 0) = false := by simpa using h0
    generalize headA S.rows x = z at hrun hb
    clear hz h0
    go_enter Try.func65, Try.ntmps65
    go_wp2_with (go_at_call 66; refine (arMade_c _ _ _ c1).mono ?_; rintro e w' ⟨rfl, rfl⟩)
    go_ret
    exact ⟨ret_int HR.out.symm, rfl⟩
theorem arSize_c (w : World) (base p mb : Nat) (lv : Value) (K : Nat) (S : ASt) (h : ArMem w base p mb lv K S) :
    Calls Try.prog 37 #[.pointer (some ⟨p, 0, none⟩)] w fun e w' => e = .returned (.int .i64 S.size) ∧ w = w' := by
  have c0 := h.blk.cell 0
  have c1 := h.blk.cell 1
  have hs := h.inv.size
  obtain ⟨A, c, rfl, _⟩ := h.row.form
  have HS := Lib.hid hs
  generalize (flatA S.rows).length = n at c0 HS
  clear hs
  go_enter Try.func37, Try.ntmps37
  go_wp2_with (go_at_call 66; refine (arMade_c _ _ _ c1).mono ?_; rintro e w' ⟨rfl, rfl⟩)
  go_ret
  exact ⟨ret_int HS.out.symm, rfl⟩

def learntA (rows : List ARow) (x : Int) : Bool := match rows.find? (atP x) with | some r => r.learnt | none => false
def litsA (rows : List ARow) (x : Int) : List Int := match rows.find? (atP x) with | some r => r.lits | none => []
theorem arId_c (w : World) (base p mb : Nat) (lv : Value) (K : Nat) (S : ASt) (x : Int) (h : ArMem w base p mb lv K S) (hx : -9223372036854775808 ≤ x ∧ x ≤ 9223372036854775807) :
    Calls Try.prog 30 #[.pointer (some ⟨p, 0, none⟩), .int .i64 x] w fun e w' => e = .returned (.int .i64 (headA S.rows x)) ∧ w = w' := by
  have c0 := h.blk.cell 0
  have H := Lib.hid h
  cases hr : S.rows.find? (atP x) with
  | none =>
    have hz : headA S.rows x = 0 := (head_pos h.inv x).2 hr
    have HZ := Lib.hid hz
    clear hr hz h
    go_enter Try.func30, Try.ntmps30
    go_wp2_with (go_at_call 63; (with_reducible refine (arIs_c _ base p mb lv K S x H.out hx).mono ?_); rintro e w' ⟨rfl, rfl⟩; rw [HZ.out])
    go_ret
    exact ⟨ret_int HZ.out.symm, rfl⟩
  | some r =>
    have hz : headA S.rows x = r.id := by unfold headA; rw [hr]
    obtain ⟨g, cap, i, j, _, rfl, hc, rfl, hle, d0, _⟩ := h.at_ hr
    have hpos := (h.inv.ok r (List.mem_of_find?_eq_some hr)).1
    obtain ⟨p1, p2⟩ := hpos
    have hd : decide (0 < r.id) = true := decide_eq_true (by omega)
    have HZ := Lib.hid hz
    have b0 : (0 : Int) ≤ (j : Int) := by omega
    have b1 : (j : Int) < ((flatA S.rows).length : Int) := by omega
    clear hr hz h
    generalize (flatA S.rows).length = n at c0 b1 H hle hc
    go_enter Try.func30, Try.ntmps30
    go_wp2_with (go_at_call 63; (with_reducible refine (arIs_c _ base p mb _ K S _ H.out hx).mono ?_); rintro e w' ⟨rfl, rfl⟩; rw [HZ.out])
    go_ret
    exact ⟨ret_int HZ.out.symm, rfl⟩
end Go.Proofs.Ytbkimfefbdfkbaa
