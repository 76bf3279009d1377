/- Layer 12 (arena): Drop, Swap. -/
import Derived.Test.YtbkimfefbdfkbaaAr5
set_option maxRecDepth 100000
namespace Go.Proofs.Ytbkimfefbdfkbaa
open Go.RowKit Go.Maps

theorem find_iff {S : ASt} (h : AInv S) {z : Int} {a : ARow} : S.rows.find? (atP z) = some a ↔ ∃ i : Nat, S.rows[i]? = some a ∧ a.pos = z ∧ a.live = true := by
  constructor
  · intro e
    obtain ⟨i, _, h1, h2, h3⟩ := find_at e
    exact ⟨i, h1, h2, h3⟩
  · rintro ⟨i, h1, h2, h3⟩
    cases e : S.rows.find? (atP z) with
    | none =>
      rw [List.find?_eq_none] at e
      exact absurd (by simp [atP, h2, h3]) (e a (List.mem_of_getElem? h1))
    | some b =>
      obtain ⟨j, _, g1, g2, _⟩ := find_at e
      have := h.inj h1 g1 (by rw [h2, g2])
      subst this
      rw [h1] at g1
      rw [g1]
theorem find_set {S : ASt} {n : Int} {i : Nat} {r r' : ARow} (h : AInv S) (h' : AInv ⟨S.rows.set i r', n⟩) (hr : S.rows[i]? = some r) (hp : r'.pos = r.pos) (z : Int) :
    (S.rows.set i r').find? (atP z) = if z = r.pos then (if r'.live then some r' else none) else S.rows.find? (atP z) := by
  have hl := (List.getElem?_eq_some_iff.1 hr).1
  have hs : (S.rows.set i r')[i]? = some r' := by rw [List.getElem?_set_self hl]
  have iff' : ∀ {a : ARow}, (S.rows.set i r').find? (atP z) = some a ↔ ∃ j : Nat, (S.rows.set i r')[j]? = some a ∧ a.pos = z ∧ a.live = true := find_iff h'
  by_cases e : z = r.pos
  · rw [if_pos e]
    cases hlv : r'.live with
    | true => rw [if_pos rfl]; exact iff'.2 ⟨i, hs, by rw [hp, e], hlv⟩
    | false =>
      rw [if_neg (by simp)]
      cases hf : (S.rows.set i r').find? (atP z) with
      | none => rfl
      | some b =>
        obtain ⟨j, g1, g2, g3⟩ := iff'.1 hf
        have := h'.inj (show (ASt.mk (S.rows.set i r') n).rows[i]? = some r' from hs) g1 (by rw [hp, g2, e])
        subst this
        rw [hs] at g1
        cases g1
        rw [hlv] at g3; cases g3
  · rw [if_neg e]
    cases hf : S.rows.find? (atP z) with
    | some b =>
      obtain ⟨j, g1, g2, g3⟩ := (find_iff h).1 hf
      have hne : i ≠ j := by
        rintro rfl
        rw [hr] at g1; cases g1
        exact e g2.symm
      exact iff'.2 ⟨j, by rw [List.getElem?_set_ne hne]; exact g1, g2, g3⟩
    | none =>
      cases hf2 : (S.rows.set i r').find? (atP z) with
      | none => rfl
      | some b =>
        obtain ⟨j, g1, g2, g3⟩ := iff'.1 hf2
        have hne : i ≠ j := by
          rintro rfl
          rw [hs] at g1; cases g1
          exact e (by rw [← g2, hp])
        rw [List.getElem?_set_ne hne] at g1
        have := (find_iff h).2 ⟨j, g1, g2, g3⟩
        rw [hf] at this; cases this
theorem enc_drop (r : ARow) : encR { r with live := false } = (encR r).set 2 2 := by simp [encR, sideA]
/-- One number of the row is written. -/
theorem ArMem.put {w : World} {base p mb K : Nat} {lv : Value} {S S' : ASt} {g cap j n : Nat} {y : Int} (h : ArMem w base p mb (.slice (some ⟨g, 0, none⟩) n cap) K S) (hlv : lv = .slice (some ⟨g, 0, none⟩) n cap)
    (hi : AInv S') (hlen : S'.rows.length ≤ K) (hfl : flatA S'.rows = (flatA S.rows).set j y) (hh : ∀ x, headA S'.rows x = headA S.rows x) : ArMem (w.setCell ⟨g, j, none⟩ (.int .i64 y)) base p mb lv K S' := by
  subst hlv
  obtain ⟨D, ⟨es, cl, hmb, hm1⟩, hm2⟩ := h.heads
  have hng : g ≠ mb := fun e => h.heads.ne_row h.row (by rw [e]; rfl)
  have hnp : g ≠ p := fun e => h.row.ne_blk h.blk (by decide) (by rw [e]; rfl)
  refine ⟨h.blk.far (p := ⟨g, j, none⟩) (Ne.symm hnp) _, by rw [hfl]; exact h.row.set y, ?_, h.bp, h.bm, hi, hlen, h.sk⟩
  exact (h.heads.keep (Below.heap_setCell w ⟨g, j, none⟩ _ mb (Ne.symm hng))).congr fun x => (hh x).symm

set_option maxHeartbeats 2000000 in
theorem arDrop_c (w : World) (base p mb : Nat) (lv : Value) (K : Nat) (S : ASt) (x : Int) (h : ArMem w base p mb lv K S) (hx : -9223372036854775808 ≤ x ∧ x ≤ 9223372036854775807) (hK : K + 1 ≤ 1000000) :
    Calls Try.prog 33 #[.pointer (some ⟨p, 0, none⟩), .int .i64 x] w fun e w' => e = .returned (.int .i64 (dropE S x)) ∧ ArNext w w' base p mb lv (K + 1) (dropS S x) := by
  have c0 := h.blk.cell 0
  have c1 := h.blk.cell 1
  have H := Lib.hid h
  cases hr : S.rows.find? (atP x) with
  | none =>
    have HD : Hid (dropE S x = 20) := by unfold Hid dropE; rw [hr]
    have HS : Hid (dropS S x = S) := by unfold Hid dropS; rw [HD.out, if_neg (by decide)]
    clear hr h
    go_enter Try.func33, Try.ntmps33
    go_wp2_with (go_at_call 65; (with_reducible refine (arWhy_c _ base p mb lv K S x H.out hx).mono ?_); rintro e w' ⟨rfl, rfl⟩; rw [HD.out])
    go_ret
    exact ⟨ret_int HD.out.symm, by rw [HS.out]; exact ArNext.refl H.out (Ext.refl _) hK⟩
  | some r =>
    have HD : Hid (dropE S x = 0) := by unfold Hid dropE; rw [hr]
    obtain ⟨g, cap, i, j, hij, rfl, hc, rfl, hle, _, _, d2, _, hf⟩ := h.at_ hr
    have hln := h.len
    have b0 : (0 : Int) ≤ (j : Int) := by omega
    have b1 : (j : Int) + 2 < ((flatA S.rows).length : Int) := by omega
    have hw : IntKind.i64.wrap ((j : Int) + 2) = (j : Int) + 2 := IntWalk.i64_in _ (by omega)
    obtain ⟨i1, i2, i3, i4⟩ := hij.out
    have hok := h.inv.ok r (List.mem_of_getElem? i2)
    have hst := step_inv h.inv i1 i2 (fun r => { r with live := false }) rfl rfl rfl hok.2.2
    have hpos := h.inv.pos i r i2
    rw [← i3] at hpos
    have HS : Hid (dropS S (j : Int) = ⟨S.rows.set i { r with live := false }, S.size⟩) := by unfold Hid dropS; rw [HD.out, if_pos rfl, hst.1]
    have hfl : flatA (S.rows.set i { r with live := false }) = (flatA S.rows).set (j + 2) 2 := by rw [i3]; exact arow_set i2 (by rw [encR_len]; omega) (enc_drop r)
    have hhd : ∀ z, headA (S.rows.set i { r with live := false }) z = if z = (j : Int) then 0 else headA S.rows z := fun z => by
      unfold headA
      rw [find_set h.inv hst.2 i2 rfl z, hpos]
      by_cases e : z = (j : Int)
      · rw [if_pos e, if_pos e]; rfl
      · rw [if_neg e, if_neg e]
    have HFL := Lib.hid hfl
    have HHD := Lib.hid hhd
    have HST := Lib.hid hst.2
    have hng : g ≠ mb := fun e => h.heads.ne_row h.row (by rw [e]; rfl)
    have hnp : p ≠ mb := fun e => h.heads.ne_blk2 h.blk e.symm
    have f2 := hf (j + 2)
    clear hr hij hst hok hfl hhd hpos i1 i2 i3 i4 h hf
    generalize (flatA S.rows).length = n at c0 b1 hle hc hln H
    go_enter Try.func33, Try.ntmps33
    go_wp2_with (first
      | (go_at_call 65; (with_reducible refine (arWhy_c _ base p mb _ K S _ H.out hx).mono ?_); rintro e w' ⟨rfl, rfl⟩; rw [HD.out])
      | (refine wpList_delm _ rfl (.tmp 15) (.tmp 16) rfl mb K (headA S.rows) rfl H.out.heads _ rfl hx ?_; intro w2 hc2 hg2; have k0 := (H.out.blk.grown hg2 (by simpa using hnp)).cell 0; have k2 : w2.cell? ⟨g, j + 2, none⟩ = w.cell? ⟨g, j + 2, none⟩ := (by have := World.block_lt_of_cell? w ⟨g, j + 2, none⟩ d2; have hb := hg2.block g this (by intro e; injection e with e; exact hng e); simp only [World.cell?, hb]); rw [d2] at k2; have f3 : w2.frozen? ⟨g, j + 2, none⟩ = false := (by have := World.block_lt_of_cell? w ⟨g, j + 2, none⟩ d2; have hb := hg2.block g this (by intro e; injection e with e; exact hng e); rw [← f2]; simp only [World.frozen?, hb]); have HC2 := Lib.hid hc2; have HG2 := Lib.hid hg2; clear hc2 hg2))
    go_ret
    refine ⟨ret_int HD.out.symm, ?_⟩
    rw [HS.out]
    have hgp : g ≠ p := fun e => H.out.row.ne_blk H.out.blk (by decide) (by rw [e]; rfl)
    have hrow := (H.out.row.kept HG2.out (Or.inr (H.out.heads.ne_row H.out.row))).set (j := j + 2) 2
    have hheads : Cnt w2 mb K (headA (S.rows.set i { r with live := false })) := HC2.out.congr fun z => by
      show (if z = (j : Int) then 0 else headA S.rows z) = _
      rw [HHD.out z]
    refine ⟨_, mb, ⟨(H.out.blk.grown HG2.out (by simpa using hnp)).far (p := ⟨g, j + 2, none⟩) (Ne.symm hgp) _, ?_, (hheads.keep (Below.heap_setCell w2 ⟨g, j + 2, none⟩ _ mb (Ne.symm hng))).mono (by omega), H.out.bp, H.out.bm, HST.out, ?_, hK⟩, ?_, fun b hb => Or.inl hb⟩
    · rw [HFL.out]; exact hrow
    · have := H.out.sm
      show (S.rows.set i _).length ≤ K + 1
      rw [List.length_set]; omega
    · exact ((Stay.refl (ArF p mb (.slice (some ⟨g, 0, none⟩) n cap)) w).grown HG2.out (fun k e => by cases e; exact Or.inl (Or.inr (Or.inl rfl)))).setCell (p := ⟨g, j + 2, none⟩) (Or.inl (Or.inr (Or.inr rfl))) _
end Go.Proofs.Ytbkimfefbdfkbaa
