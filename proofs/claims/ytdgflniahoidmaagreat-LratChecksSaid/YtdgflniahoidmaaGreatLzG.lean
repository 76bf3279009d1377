/- The reference of layer 11: Step: what is refused, and what is deleted. -/
import Derived.Test.YtdgflniahoidmaaGreatLzA
import Derived.Test.YtdgflniahoidmaaGreatLzD
import Derived.Test.YtdgflniahoidmaaGreatLzE
set_option maxRecDepth 100000
namespace Go.Proofs.YtdgflniahoidmaaGreat
open Go.RowKit

theorem RowsNO.wider {F G : Nat → Prop} {w0 w : World} {A : Option Addr} {n : Nat} {R : List (Int × List Int)} (h : RowsNO F w0 w A n R) (hG : ∀ b, b < w.heap.size → G b → F b) : RowsNO G w0 w A n R :=
  ⟨h.1, h.2.1, fun hn => by
    obtain ⟨ad, e, ho, hc⟩ := h.2.2 hn
    refine ⟨ad, e, fun hg => ho (hG _ ?_ hg), hc⟩
    have hl : 0 < R.length := by rw [h.1]; exact hn
    obtain ⟨_, _, _, h1, _⟩ := hc 0 _ (List.getElem?_eq_getElem hl)
    have := World.block_lt_of_cell? _ _ h1
    rwa [block_add] at this⟩
/-- What drop hands back. -/
def RetDrop11 (F : Nat → Prop) (w0 : World) (R : List (Int × List Int)) (last : Int) (done : Bool) (l : List Int) (w : World) (e : Ending) (w' : World) : Prop :=
  ∃ A n c, e = .returned (.tuple #[.agg #[.slice A n c, .int .i64 last, .bool done], .int .i64 (if dropOk R l then 0 else 20)]) ∧ (dropOk R l = true → RowsNO (fun b => F b ∨ b = w.heap.size ∨ b = w.heap.size + 1) w0 w' A n (dropR R l) ∧ n ≤ c) ∧ Ext w w'

set_option maxHeartbeats 8000000 in
theorem r11Drop_c (A : Option Addr) (n c : Nat) (R : List (Int × List Int)) (last : Int) (done : Bool) (A' : Option Addr) (n' c' : Nat) (l : List Int) (F : Nat → Prop) (w0 w : World) (h : RowsNO F w0 w A n R) (hF : ∀ b, F b → b < w.heap.size) (hW : Ext w0 w) (hnc : n ≤ c) (h' : IntSl w A' n' l) (hl : ∀ y ∈ l, 1 ≤ y) (hsm : n ≤ 1000000) :
    Calls Tryz.prog 29 #[.agg #[.slice A n c, .int .i64 last, .bool done], .slice A' n' c'] w (RetDrop11 F w0 R last done l w) := by
  have hn := h'.len
  have HLN := Lib.hid h'.1
  have HL := Lib.hid hl
  have HS' := Lib.hid h'
  have HRO : Hid (RowsNO (fun b => F b ∨ b = w.heap.size ∨ b = w.heap.size + 1) w0 w A n R) := h.wider (fun b hb e => by rcases e with e | e | e; exact e; omega; omega)
  have HFF := Lib.hid hF
  have HW := Lib.hid hW
  clear h h' hl hW hF
  go_enter Tryz.func29, Tryz.ntmps29
  go_wp2_with fail
  go_loopw [6] (fun i wr => ∃ (k : Nat) (Ak : Option Addr) (nk ck : Nat), k ≤ n' ∧ i = .int .i64 k ∧ DropAt R l k ∧ Blk wr w.heap.size 38 #[.slice Ak nk ck, .int .i64 last, .bool done] ∧ Blk wr (w.heap.size + 1) 38 #[.slice none 0 0, .int .i64 0, .bool false] ∧ RowsNO (fun b => F b ∨ b = w.heap.size ∨ b = w.heap.size + 1) w0 wr Ak nk (dropR R (l.take k)) ∧ nk ≤ ck ∧ Ext w wr) (fun i _ => n' - (intOf i).toNat)
  case atStart =>
    refine ⟨0, A, n, c, Nat.zero_le _, rfl, fun i x hi => absurd hi (by omega), Blk.alloc (Blk.new w _ _) _, Blk.newg2 _ _ (by simp), ?_, hnc, by (repeat (first | with_reducible exact Ext.refl _ | with_reducible apply Ext.alloc | with_reducible apply Ext.drew | with_reducible apply Ext.drewN | (apply Ext.trans'; assumption)))⟩
    have e : dropR R (l.take 0) = R := by unfold dropR; rw [List.filter_eq_self]; intro a _; rfl
    rw [e]
    exact HRO.out.stay (Ext.stay (by (repeat (first | with_reducible exact Ext.refl _ | with_reducible apply Ext.alloc | with_reducible apply Ext.drew | with_reducible apply Ext.drewN | (apply Ext.trans'; assumption)))))
  case round =>
    obtain ⟨k, Ak, nk, ck, hk, rfl, hda, hb0, hb1, hro, hnk, hx⟩ := hrel
    have HDA := Lib.hid hda
    have HB0 := Lib.hid hb0
    have HB1 := Lib.hid hb1
    have HROK := Lib.hid hro
    have HX := Lib.hid hx
    have b0 := hb0.cell 0
    have b1 := hb0.cell 1
    have b2 := hb0.cell 2
    clear hda hb0 hb1 hro hx
    by_cases hlt : k < n'
    · obtain ⟨ad, x, rfl, hxk, hcx, hx1, hx2⟩ := (HS'.out.ext HX.out).at_ hlt
      have HXK := Lib.hid hxk.out
      have HT := Lib.hid (dropR_succ (R := R) hxk.out)
      obtain ⟨g, hg⟩ : ∃ g, getR (dropR R (l.take k)) x = g := ⟨_, rfl⟩
      have HG := Lib.hid hg
      clear hxk hg
      go_wp2_with fail
      go_region_law
        ((first
          | (go_simp; (with_reducible refine (r11Find_c _ _ _ (dropR R (l.take k)) last done x _ ((HROK.out.toN (HW.out.trans HX.out)).ext (Ext.drew (Ext.refl wr)))).mono ?_); rintro e w4 ⟨A4, m4, c4, rfl, _, _, hx4⟩; rw [HG.out]; have HX4 := Lib.hid ((Ext.drew (Ext.refl wr)).trans hx4); clear hx4)))
      all_goals
        clear b0 b1 b2
        have HC0 := Lib.hid (HB0.out.ext HX4.out)
        have HC1 := Lib.hid (HB1.out.ext HX4.out)
        have c0 := HC0.out.cell 0
        have c1 := HC0.out.cell 1
        have c2 := HC0.out.cell 2
        have r0 := HC1.out.cell 0
        have r1 := HC1.out.cell 1
        have r2 := HC1.out.cell 2
        have s0 := HC1.out.frozen 0
        have s1 := HC1.out.frozen 1
        have s2 := HC1.out.frozen 2
        cases g with
        | none =>
          have HR : Hid (dropOk R l = false) := DropAt.bad HL.out HXK.out HG.out
          go_wp2
          have hs := ((HC1.out.set_ 0 (.slice Ak nk ck)).set_ 1 (.int .i64 last)).set_ 2 (.bool done)
          have t0 := hs.cell 0
          have t1 := hs.cell 1
          have t2 := hs.cell 2
          refine bodyPost_ret (v := .tuple #[.agg #[.slice Ak nk ck, .int .i64 last, .bool done], .int .i64 20]) (by simp [results, Tryz.results29, go_sem, t0, t1, t2]) rfl ?_
          refine ⟨Ak, nk, ck, by rw [HR.out]; rfl, fun e => (by rw [HR.out] at e; cases e), ?_⟩
          exact (((HX.out.trans HX4.out).setCell (by show w.heap.size ≤ w.heap.size + 1; omega) _).setCell (by show w.heap.size ≤ w.heap.size + 1; omega) _).setCell (by show w.heap.size ≤ w.heap.size + 1; omega) _
        | some cl =>
          have HDN : Hid (DropAt R l (k + 1)) := fun i y hi hy => by
            by_cases e : i = k
            · subst e
              rw [HXK.out] at hy
              cases hy
              rw [HG.out]; rfl
            · exact HDA.out i y (by omega) hy
          obtain ⟨gz, hgz⟩ : ∃ g, w4.heap.size = g := ⟨_, rfl⟩
          have hgz1 : gz ≤ w4.heap.size := by omega
          have hgz3 : w4.heap.size ≤ gz := by omega
          have hgz2 : w.heap.size + 2 ≤ gz := by have := HC1.out.lt; omega
          have HRK := Lib.hid (HROK.out.stay (Ext.stay HX4.out))
          obtain ⟨D, hD⟩ : ∃ D, dropR R (l.take k) = D := ⟨_, rfl⟩
          rw [hD] at HRK HT
          have HDL : Hid (D.length = nk) := HRK.out.1
          have HNK : Hid (nk ≤ 1000000) := by
            have e1 := HDL.out
            have e2 := HRO.out.1
            have e3 : D.length ≤ R.length := by rw [← hD]; exact List.length_filter_le _ _
            unfold Hid; omega
          clear hgz hD
          have hcx4 := HX4.out.cell hcx
          have HXW4 := Lib.hid (HX.out.trans HX4.out)
          clear s0 s1 s2 r0 r1 r2
          go_wp2_with fail
          go_loopw [9, 10] (fun v i wj => ∃ q : Nat, q ≤ nk ∧ i = .int .i64 q ∧ OwnN w0 wj gz v ((D.take q).filter fun p => decide (p.1 ≠ x)) ∧ Ext w4 wj) (fun _ i _ => nk - (intOf i).toNat)
          case atStart => exact ⟨0, Nat.zero_le _, rfl, OwnN.nil _ _ _, Ext.refl _⟩
          case round =>
            obtain ⟨q, hq, rfl, ho, hxj⟩ := hrel
            have HO := Lib.hid ho
            have HXJ := Lib.hid hxj
            have hnkb := HNK.out
            have y0 := (HC0.out.ext hxj).cell 0
            have hcxj := hxj.cell hcx4
            have HZ : Hid (gz ≤ wr.heap.size) := by have := hxj.size_le; unfold Hid; omega
            clear ho hxj
            by_cases hqn : q < nk
            · obtain ⟨ad2, rfl, _, hc2⟩ := HRK.out.2.2 (by omega)
              have hp : D[q]? = some (D[q]'(by rw [HDL.out]; exact hqn)) := List.getElem?_eq_getElem _
              generalize D[q]'(by rw [HDL.out]; exact hqn) = p at hp
              obtain ⟨A5, n5, c5, h1, h2, h3, h4⟩ := hc2 q p hp
              have h1' := HXJ.out.cell h1
              have h2' := HXJ.out.cell h2
              have HTQ := Lib.hid (take_succ_of hp)
              have H3 := Lib.hid h3
              clear hc2 hp h1 h2 h3
              by_cases hpx : p.1 = x
              · have hpb : (p.1 == x) = true := by simpa using hpx
                have HF : Hid ((D.take (q + 1)).filter (fun p => decide (p.1 ≠ x)) = (D.take q).filter (fun p => decide (p.1 ≠ x))) := by unfold Hid; rw [HTQ.out, List.filter_append]; simp [hpx]
                clear hpx
                go_wp2
                go_quiet (fail)
                go_wp2
                go_roundw
                case rel => exact ⟨q + 1, by omega, by go_num, by rw [HF.out]; exact HO.out.ext ((Ext.refl _).drewN _), HXJ.out.drewN _⟩
                case measure => simp [intOf]; omega
              · have hpb : (p.1 == x) = false := by simpa using hpx
                have HF : Hid ((D.take (q + 1)).filter (fun p => decide (p.1 ≠ x)) = (D.take q).filter (fun p => decide (p.1 ≠ x)) ++ [p]) := by unfold Hid; rw [HTQ.out, List.filter_append]; simp [hpx]
                have HFL : Hid (((D.take q).filter (fun p => decide (p.1 ≠ x))).length + 1 ≤ 1000000000000) := by have e1 := List.length_filter_le (fun p : Int × List Int => decide (p.1 ≠ x)) (D.take q); have e : (D.take q).length ≤ q := by rw [List.length_take]; exact Nat.min_le_left _ _
                                                                                                                  have := HNK.out; unfold Hid; omega
                clear hpx
                go_wp2
                go_quiet (fail)
                go_wp2_with (at_builtin; refine appendN w0 _ rfl (.tmp 47) (.tmp 53) rfl gz _ _ rfl (HO.out.ext (by (repeat (first | with_reducible exact Ext.refl _ | with_reducible apply Ext.alloc | with_reducible apply Ext.drew | with_reducible apply Ext.drewN | (apply Ext.trans'; assumption))))) _ _ p A5 n5 c5 rfl (SlV.new1N _ _ _) H3.out h4 HFL.out (by have := HZ.out; rw [World.size_alloc]; exact Nat.le_succ_of_le this) ?_; intro v' w2 ho2 hg2 _; have HO2 := Lib.hid ho2; have HX2 : Hid (Ext w4 w2) := Ext.grown (HXJ.out.trans (by (repeat (first | with_reducible exact Ext.refl _ | with_reducible apply Ext.alloc | with_reducible apply Ext.drew | with_reducible apply Ext.drewN | (apply Ext.trans'; assumption))))) hg2 (fun j hj => Nat.le_trans hgz3 (HO.out.blk j hj).1); clear ho2 hg2)
                go_roundw
                case rel => exact ⟨q + 1, by omega, by go_num, by rw [HF.out]; exact HO2.out, HX2.out⟩
                case measure => simp [intOf]; omega
            · have HO9 : Hid (OwnN w0 wr gz u9 (D.filter fun p => decide (p.1 ≠ x))) := by
                have e := HO.out
                rw [List.take_of_length_le (by rw [HDL.out]; omega)] at e
                exact e
              obtain ⟨A9, n9, c9, rfl, hr9, hc9⟩ := HO9.out.outside (fun b => F b ∨ b = w.heap.size ∨ b = w.heap.size + 1) (fun b e => by rcases e with e | e | e; (have := HFF.out b e; omega); omega; omega) (by have e1 := List.length_filter_le (fun p : Int × List Int => decide (p.1 ≠ x)) D; have := HNK.out; have := HDL.out; omega)
              have HR9 := Lib.hid hr9
              have z0 := (HC0.out.ext HXJ.out).frozen 0
              clear hr9
              go_wp2
              go_roundw
              case rel =>
                refine ⟨k + 1, A9, n9, c9, by omega, by go_num, HDN.out, by have := (HC0.out.ext HXJ.out).set_ 0 (.slice A9 n9 c9); simpa using this, (HC1.out.ext HXJ.out).far (by simp) _, ?_, hc9, ((HX.out.trans HX4.out).trans HXJ.out).setCell (by show w.heap.size ≤ w.heap.size; omega) _⟩
                rw [HT.out]
                exact HR9.out.stay ((Stay.refl (fun b => F b ∨ b = w.heap.size ∨ b = w.heap.size + 1) wr).setCell (.inl (.inr (.inl rfl))) _)
              case measure => simp [intOf]; omega
    · have hkl : l.length ≤ k := by rw [HLN.out]; omega
      have HR : Hid (dropOk R l = true) := DropAt.done HL.out (fun i y hi hy => HDA.out i y (by omega) hy)
      have HRR : Hid (RowsNO (fun b => F b ∨ b = w.heap.size ∨ b = w.heap.size + 1) w0 wr Ak nk (dropR R l)) := by
        have e := HROK.out
        rw [List.take_of_length_le hkl] at e
        exact e
      have r0 := HB1.out.cell 0
      have r1 := HB1.out.cell 1
      have r2 := HB1.out.cell 2
      have s0 := HB1.out.frozen 0
      have s1 := HB1.out.frozen 1
      have s2 := HB1.out.frozen 2
      clear hkl
      go_wp2
      have hs := ((HB1.out.set_ 0 (.slice Ak nk ck)).set_ 1 (.int .i64 last)).set_ 2 (.bool done)
      have t0 := hs.cell 0
      have t1 := hs.cell 1
      have t2 := hs.cell 2
      refine bodyPost_ret (v := .tuple #[.agg #[.slice Ak nk ck, .int .i64 last, .bool done], .int .i64 0]) (by simp [results, Tryz.results29, go_sem, t0, t1, t2]) rfl ?_
      have hx2 := ((HX.out.setCell (p := ⟨w.heap.size + 1, 0, none⟩) (by show w.heap.size ≤ w.heap.size + 1; omega) (.slice Ak nk ck)).setCell (p := ⟨w.heap.size + 1, 1, none⟩) (by show w.heap.size ≤ w.heap.size + 1; omega) (.int .i64 last)).setCell (p := ⟨w.heap.size + 1, 2, none⟩) (by show w.heap.size ≤ w.heap.size + 1; omega) (.bool done)
      refine ⟨Ak, nk, ck, by rw [HR.out]; rfl, fun _ => ⟨HRR.out.stay ((((Stay.refl (fun b => F b ∨ b = w.heap.size ∨ b = w.heap.size + 1) wr).setCell (p := ⟨w.heap.size + 1, 0, none⟩) (.inl (.inr (.inr rfl))) _).setCell (p := ⟨w.heap.size + 1, 1, none⟩) (.inl (.inr (.inr rfl))) _).setCell (p := ⟨w.heap.size + 1, 2, none⟩) (.inl (.inr (.inr rfl))) _), hnk⟩, hx2⟩
end Go.Proofs.YtdgflniahoidmaaGreat

namespace Go.Proofs.YtdgflniahoidmaaGreat
open Go.RowKit

theorem OwnN.stay {w0 w w' : World} {base : Nat} {v : Value} {R : List (Int × List Int)} {F : Nat → Prop} (h : OwnN w0 w base v R) (hs : Stay F w w') (ho : ∀ k, v.ownBlock = some k → ¬ F k) : OwnN w0 w' base v R :=
  let ⟨us, h1, h2⟩ := h; ⟨us, h1.stay hs ho, h2⟩
theorem OwnN.form {w0 w : World} {base : Nat} {v : Value} {R : List (Int × List Int)} (h : OwnN w0 w base v R) : ∃ A m c, v = .slice A m c := let ⟨_, h1, _⟩ := h; OwnV.form h1
/-- What New hands back. -/
def RetNew11 (v : Int) (L : List (List Int)) (w0 w : World) (e : Ending) (w' : World) : Prop :=
  ∃ A n c last done, e = .returned (.tuple #[.agg #[.slice A n c, .int .i64 last, .bool done], .int .i64 (fCheckV v L).2]) ∧ ((fCheckV v L).2 = 0 → last = (newS L).last ∧ done = (newS L).done ∧ (∀ F : Nat → Prop, (∀ b, F b → b < w.heap.size) → RowsNO F w0 w' A n (newS L).rows) ∧ n ≤ c) ∧ Ext w w'

set_option maxHeartbeats 8000000 in
theorem r11New_c (v : Int) (A : Option Addr) (n c : Nat) (L : List (List Int)) (w0 w : World) (h : RowsW w0 A n L) (hW : Ext w0 w) (hsm : n ≤ 1000000) :
    Calls Tryz.prog 9 #[.agg #[.int .i64 v, .slice A n c]] w (RetNew11 v L w0 w) := by
  have hbR := Blk.new (w.alloc (Obj.cells #[.int .i64 v, .slice A n c] 24)) 38 #[.slice none 0 0, .int .i64 0, .bool false]
  simp only [World.size_alloc] at hbR
  have HB1 := Lib.hid hbR
  have HB0 := Lib.hid ((Blk.new w 24 #[.int .i64 v, .slice A n c]).alloc (Obj.cells #[.slice none 0 0, .int .i64 0, .bool false] 38))
  have HXA : Hid (Ext w ((w.alloc (Obj.cells #[.int .i64 v, .slice A n c] 24)).alloc (Obj.cells #[.slice none 0 0, .int .i64 0, .bool false] 38))) := ((Ext.refl _).alloc _).alloc _
  have HS := Lib.hid h
  have HLN := Lib.hid h.1
  have b0 := HB0.out.cell 0
  have b1 := HB0.out.cell 1
  have HW := Lib.hid hW
  clear h hbR hW
  obtain ⟨⟨f1, f2⟩, hf⟩ : ∃ r, fCheckV v L = r := ⟨_, rfl⟩
  have HF := Lib.hid hf
  clear hf
  go_enter Tryz.func9, Tryz.ntmps9
  go_wp2_with fail
  refine (r4Check_c v _ _ _ L _ (HS.out.ext (HW.out.trans HXA.out))).mono ?_
  rintro e w1 ⟨rfl, hx1⟩
  rw [HF.out]
  have HX1 := Lib.hid (HXA.out.trans hx1)
  have HC0 := Lib.hid (HB0.out.ext hx1)
  have HC1 := Lib.hid (HB1.out.ext hx1)
  clear hx1 b0 b1 HXA HB0 HB1
  by_cases h2 : f2 = 0
  · subst h2
    go_wp2_with fail
    obtain ⟨gz, hgz⟩ : ∃ g, w1.heap.size = g := ⟨_, rfl⟩
    have hgz1 : gz ≤ w1.heap.size := by omega
    have hgz2 : w1.heap.size ≤ gz := by omega
    have hgz3 : w.heap.size + 1 < gz := by have := HC1.out.lt; omega
    have HG0 : Hid (Blk (w1.alloc (Obj.cells #[.slice none 0 0, .int .i64 0, .bool false] 38)) gz 38 #[.slice none 0 0, .int .i64 0, .bool false]) := Blk.newg2 _ _ hgz
    have HX2 : Hid (Ext w1 (w1.alloc (Obj.cells #[.slice none 0 0, .int .i64 0, .bool false] 38))) := (Ext.refl w1).alloc _
    rw [hgz]
    clear hgz
    go_loopw [7] (fun i wr => ∃ (k : Nat) (Ak : Option Addr) (nk ck : Nat), k ≤ n ∧ i = .int .i64 k ∧ Blk wr gz 38 #[.slice Ak nk ck, .int .i64 (k : Int), .bool (newS (L.take k)).done] ∧ OwnN w0 wr (gz + 1) (.slice Ak nk ck) (newS (L.take k)).rows ∧ Ext w1 wr) (fun i _ => n - (intOf i).toNat)
    case atStart => exact ⟨0, none, 0, 0, Nat.zero_le _, rfl, HG0.out, OwnN.nil _ _ _, HX2.out⟩
    case round =>
      obtain ⟨k, Ak, nk, ck, hk, rfl, hbg, ho, hx⟩ := hrel
      have HBG := Lib.hid hbg
      have HO := Lib.hid ho
      have HX := Lib.hid hx
      have HF0 := Lib.hid (HC0.out.ext hx)
      have b1 := HF0.out.cell 1
      clear hbg ho hx
      by_cases hlt : k < n
      · obtain ⟨ad, ys, A5, n5, c5, rfl, hy, hcy, hrow, hroom⟩ := HS.out.at_ hlt
        have HY : Hid (newS (L.take (k + 1)) = putR (newS (L.take k)) ((k : Int) + 1) ys) := by
          unfold Hid
          have hl0 : (newS (L.take k)).last = k := by rw [newS_last, List.length_take, HLN.out]; congr 1; omega
          rw [newS_take hy.out, hl0]
        have HRL : Hid ((newS (L.take k)).rows.length + 1 ≤ 1000000000000) := by unfold Hid; rw [newS_len, List.length_take]; omega
        have hcyr := (HW.out.trans (HX1.out.trans HX.out)).cell hcy
        have HROW := Lib.hid hrow
        have HCY := Lib.hid hcy
        have HN5 : Hid (ys.length = n5) := hrow.1
        have hn5b := hrow.2.1
        have d0 := HBG.out.cell 0
        have d0' := fun o : Obj => (HBG.out.ext (((Ext.refl wr).alloc o).drew)).cell 0
        have b1' := fun o : Obj => (HF0.out.ext (((Ext.refl wr).alloc o).drew)).cell 1
        have hcy' := fun o : Obj => (((Ext.refl wr).alloc o).drew).cell hcyr
        have hwk : IntKind.i64.wrap ((k : Int) + 1) = (k : Int) + 1 := IntWalk.i64_in _ (by omega)
        have hki : (k : Int) < (n : Int) := by omega
        have HZ : Hid (gz + 1 ≤ wr.heap.size) := HBG.out.lt
        obtain ⟨dn, hdn⟩ : ∃ d, (newS (L.take k)).done = d := ⟨_, rfl⟩
        have HDN := Lib.hid hdn
        rw [hdn] at HBG
        clear hrow hcy hy hdn
        go_wp2_with fail
        go_region_law
          ((first
            | (refine step_appendN w0 _ (by rfl) (.tmp 25) (.tmp 34) (by rfl) (gz + 1) _ _ (by rfl) (HO.out.ext (show Ext wr _ by (repeat (first | with_reducible exact Ext.refl _ | with_reducible apply Ext.alloc | with_reducible apply Ext.drew | with_reducible apply Ext.drewN | (apply Ext.trans'; assumption))))) _ _ ((k : Int) + 1, ys) A5 n5 c5 (by rfl) (by exact SlV.new1N _ _ _) HROW.out hroom.out HRL.out (by have e2 := HZ.out; simp; omega) ?_; intro A9 n9 c9 w9 ho9 hg9 hloc; have HX9 : Hid (Ext w1 w9) := Ext.grown (HX.out.trans (show Ext wr _ by (repeat (first | with_reducible exact Ext.refl _ | with_reducible apply Ext.alloc | with_reducible apply Ext.drew | with_reducible apply Ext.drewN | (apply Ext.trans'; assumption))))) hg9 (fun j e => by have := (HO.out.blk j e).1; omega); have HB9 := Lib.hid ((HBG.out.ext (show Ext wr _ by (repeat (first | with_reducible exact Ext.refl _ | with_reducible apply Ext.alloc | with_reducible apply Ext.drew | with_reducible apply Ext.drewN | (apply Ext.trans'; assumption))))).grown hg9 (fun e => by have := (HO.out.blk _ e.symm).1; omega)); have HO9 := Lib.hid ho9; have z0 := HB9.out.cell 0; have zf := HB9.out.frozen 0; clear ho9 hg9 hloc)))
        all_goals
          clear b1 b1' d0 d0' hcy' z0 zf hwk
          have hb9 := HB9.out.set_ 0 (.slice A9 n9 c9)
          have ho9 : OwnN w0 (w9.setCell ⟨gz, 0, none⟩ (.slice A9 n9 c9)) (gz + 1) (.slice A9 n9 c9) ((newS (L.take k)).rows ++ [((k : Int) + 1, ys)]) := HO9.out.stay (F := fun b => b = gz) ((Stay.refl (fun b => b = gz) w9).setCell (.inl rfl) _) (fun j e e2 => by have := (HO9.out.blk j e).1; omega)
          have hx9 : Ext w1 (w9.setCell ⟨gz, 0, none⟩ (.slice A9 n9 c9)) := HX9.out.setCell (by show w1.heap.size ≤ gz; omega) _
          generalize w9.setCell ⟨gz, 0, none⟩ (.slice A9 n9 c9) = wa at hb9 ho9 hx9 ⊢
          have z0 := hb9.cell 0
          have z1 := hb9.cell 1
          have z2 := hb9.cell 2
          have zf1 := hb9.frozen 1
          have zf2 := hb9.frozen 2
          have y1 := (HC0.out.ext hx9).cell 1
          have yc := hx9.cell (HX1.out.cell (HW.out.cell HCY.out))
          have hfin : ∀ d : Bool, (dn || decide (ys.length = 0)) = d → Blk ((wa.setCell ⟨gz, 2, none⟩ (.bool d)).setCell ⟨gz, 1, none⟩ (.int .i64 ((k : Int) + 1))) gz 38 #[.slice A9 n9 c9, .int .i64 ((k + 1 : Nat) : Int), .bool (newS (L.take (k + 1))).done] ∧ OwnN w0 ((wa.setCell ⟨gz, 2, none⟩ (.bool d)).setCell ⟨gz, 1, none⟩ (.int .i64 ((k : Int) + 1))) (gz + 1) (.slice A9 n9 c9) (newS (L.take (k + 1))).rows ∧ Ext w1 ((wa.setCell ⟨gz, 2, none⟩ (.bool d)).setCell ⟨gz, 1, none⟩ (.int .i64 ((k : Int) + 1))) := fun d hd => by
            rw [HY.out]
            refine ⟨?_, ?_, (hx9.setCell (by show w1.heap.size ≤ gz; omega) _).setCell (by show w1.heap.size ≤ gz; omega) _⟩
            · have e := (hb9.set_ 2 (.bool d)).set_ 1 (.int .i64 ((k : Int) + 1))
              have e2 : (putR (newS (L.take k)) ((k : Int) + 1) ys).done = d := by show ((newS (L.take k)).done || decide (ys.length = 0)) = d; rw [HDN.out]; exact hd
              rw [e2]
              simpa using e
            · exact OwnN.stay (F := fun b => b = gz) ho9 (((Stay.refl (fun b => b = gz) wa).setCell (.inl rfl) _).setCell (.inl rfl) _) (fun j e e2 => by have := (ho9.blk j e).1; omega)
          have HFIN := Lib.hid hfin
          clear hfin hb9 ho9 hx9
          cases dn with
          | true =>
            have hd := HFIN.out true rfl
            have HD := Lib.hid hd
            clear hd
            go_wp2_with fail
            go_roundw
            case rel => exact ⟨k + 1, A9, n9, c9, by omega, by go_num, HD.out.1, HD.out.2.1, HD.out.2.2⟩
            case measure => simp [intOf]; omega
          | false =>
            by_cases h0 : n5 = 0
            · subst h0
              have hd := HFIN.out true (by rw [HN5.out]; rfl)
              have HD := Lib.hid hd
              clear hd
              go_wp2_with fail
              go_roundw
              case rel => exact ⟨k + 1, A9, n9, c9, by omega, by go_num, HD.out.1, HD.out.2.1, HD.out.2.2⟩
              case measure => simp [intOf]; omega
            · have h0b : ((n5 : Int) == 0) = false := by rw [beq_eq_false_iff_ne]; omega
              have hd := HFIN.out false (by rw [HN5.out]; simp [h0])
              have HD := Lib.hid hd
              clear hd h0
              go_wp2_with fail
              go_roundw
              case rel => exact ⟨k + 1, A9, n9, c9, by omega, by go_num, HD.out.1, HD.out.2.1, HD.out.2.2⟩
              case measure => simp [intOf]; omega
      · have HNE : Hid (newS (L.take k) = newS L) := by unfold Hid; rw [List.take_of_length_le (by rw [HLN.out]; omega)]
        have HLK : Hid ((k : Int) = (newS L).last) := by unfold Hid; rw [newS_last, HLN.out]; congr 1; omega
        rw [HNE.out] at HBG HO
        obtain ⟨dn, hdn⟩ : ∃ d, (newS L).done = d := ⟨_, rfl⟩
        have HDN := Lib.hid hdn
        rw [hdn] at HBG
        clear hdn
        have d0 := HBG.out.cell 0
        have d1 := HBG.out.cell 1
        have d2 := HBG.out.cell 2
        have HRB := Lib.hid (HC1.out.ext HX.out)
        have s0 := HRB.out.frozen 0
        have s1 := HRB.out.frozen 1
        have s2 := HRB.out.frozen 2
        have r0 := HRB.out.cell 0
        have r1 := HRB.out.cell 1
        have r2 := HRB.out.cell 2
        go_wp2_with fail
        have hs := ((HRB.out.set_ 0 (.slice Ak nk ck)).set_ 1 (.int .i64 (k : Int))).set_ 2 (.bool dn)
        have t0 := hs.cell 0
        have t1 := hs.cell 1
        have t2 := hs.cell 2
        refine bodyPost_ret (v := .tuple #[.agg #[.slice Ak nk ck, .int .i64 (k : Int), .bool dn], .int .i64 0]) (by simp [results, Tryz.results9, go_sem, t0, t1, t2]) rfl ?_
        have hx2 := (((HX1.out.trans HX.out).setCell (p := ⟨w.heap.size + 1, 0, none⟩) (by show w.heap.size ≤ w.heap.size + 1; omega) (.slice Ak nk ck)).setCell (p := ⟨w.heap.size + 1, 1, none⟩) (by show w.heap.size ≤ w.heap.size + 1; omega) (.int .i64 (k : Int))).setCell (p := ⟨w.heap.size + 1, 2, none⟩) (by show w.heap.size ≤ w.heap.size + 1; omega) (.bool dn)
        refine ⟨Ak, nk, ck, _, _, by rw [HF.out], fun _ => ?_, hx2⟩
        have ho2 := OwnN.stay (F := fun b => b = w.heap.size + 1) HO.out ((((Stay.refl (fun b => b = w.heap.size + 1) wr).setCell (p := ⟨w.heap.size + 1, 0, none⟩) (.inl rfl) (.slice Ak nk ck)).setCell (p := ⟨w.heap.size + 1, 1, none⟩) (.inl rfl) (.int .i64 (k : Int))).setCell (p := ⟨w.heap.size + 1, 2, none⟩) (.inl rfl) (.bool dn)) (fun j e e2 => by have := (HO.out.blk j e).1; omega)
        have hlen7 : (newS L).rows.length ≤ 9223372036854775807 := by rw [newS_len, HLN.out]; omega
        refine ⟨HLK.out, HDN.out.symm, fun F hF => ?_, ?_⟩
        · obtain ⟨A7, n7, c7, e7, hr7, _⟩ := ho2.outside F (fun b e => by have := hF b e; omega) hlen7
          cases e7
          exact hr7
        · obtain ⟨A7, n7, c7, e7, _, hc7⟩ := ho2.outside (fun _ => False) (fun b e => e.elim) hlen7
          cases e7
          exact hc7
  · have hb : (f2 != 0) = true := by simpa using h2
    have s0 := HC1.out.frozen 0
    have s1 := HC1.out.frozen 1
    have s2 := HC1.out.frozen 2
    have r0 := HC1.out.cell 0
    have r1 := HC1.out.cell 1
    have r2 := HC1.out.cell 2
    go_wp2_with fail
    have hs := ((HC1.out.set_ 0 (.slice none 0 0)).set_ 1 (.int .i64 0)).set_ 2 (.bool false)
    have t0 := hs.cell 0
    have t1 := hs.cell 1
    have t2 := hs.cell 2
    refine bodyPost_ret (v := .tuple #[.agg #[.slice none 0 0, .int .i64 0, .bool false], .int .i64 f2]) (by simp [results, Tryz.results9, go_sem, t0, t1, t2]) rfl ?_
    exact ⟨none, 0, 0, 0, false, by rw [HF.out], fun e => by rw [HF.out] at e; exact absurd e h2, ((HX1.out.setCell (p := ⟨w.heap.size + 1, 0, none⟩) (by show w.heap.size ≤ w.heap.size + 1; omega) _).setCell (p := ⟨w.heap.size + 1, 1, none⟩) (by show w.heap.size ≤ w.heap.size + 1; omega) _).setCell (p := ⟨w.heap.size + 1, 2, none⟩) (by show w.heap.size ≤ w.heap.size + 1; omega) _⟩
end Go.Proofs.YtdgflniahoidmaaGreat

namespace Go.Proofs.YtdgflniahoidmaaGreat
open Go.RowKit

/-- What Step hands back. -/
def RetStepZ (F : Nat → Prop) (w0 : World) (S : CSt) (s : Stp) (w : World) (e : Ending) (w' : World) : Prop :=
  ∃ A n c last done, e = .returned (.tuple #[.agg #[.slice A n c, .int .i64 last, .bool done], .int .i64 (stepE S s)]) ∧ RowsNO F w0 w' A n (stepS S s).rows ∧ n ≤ c ∧ last = (stepS S s).last ∧ done = (stepS S s).done ∧ Ext w w'
theorem RowsNO.less {F G : Nat → Prop} {w0 w : World} {A : Option Addr} {n : Nat} {R : List (Int × List Int)} (h : RowsNO G w0 w A n R) (hG : ∀ b, F b → G b) : RowsNO F w0 w A n R :=
  ⟨h.1, h.2.1, fun hn => let ⟨ad, e, ho, hc⟩ := h.2.2 hn; ⟨ad, e, fun hf => ho (hG _ hf), hc⟩⟩
theorem stepR_bad {R : List (Int × List Int)} {last : Int} {done : Bool} {s : Stp} {code : Int} {A : Option Addr} {n c : Nat} {F : Nat → Prop} {w0 w w' : World} (HR : stepE ⟨R, last, done⟩ s = code) (hne : code ≠ 0) (h : RowsNO F w0 w A n R) (hnc : n ≤ c) (hx : Ext w w') :
    RetStepZ F w0 ⟨R, last, done⟩ s w (.returned (.tuple #[.agg #[.slice A n c, .int .i64 last, .bool done], .int .i64 code])) w' := by
  have e : stepS ⟨R, last, done⟩ s = ⟨R, last, done⟩ := stepS_bad (by rw [HR]; exact hne)
  exact ⟨A, n, c, last, done, by rw [HR], by rw [e]; exact h.stay (Ext.stay hx), hnc, by rw [e], by rw [e], hx⟩
theorem stepR_del {R : List (Int × List Int)} {last id : Int} {done : Bool} {lits hints : List Int} {A : Option Addr} {n c : Nat} {w0 w w' : World} {F G : Nat → Prop} (HR : stepE ⟨R, last, done⟩ ⟨2, id, lits, hints⟩ = 0) (h : RowsNO G w0 w' A n (dropR R hints)) (hG : ∀ b, F b → G b) (hnc : n ≤ c) (hx : Ext w w') :
    RetStepZ F w0 ⟨R, last, done⟩ ⟨2, id, lits, hints⟩ w (.returned (.tuple #[.agg #[.slice A n c, .int .i64 last, .bool done], .int .i64 0])) w' := by
  have e : stepS ⟨R, last, done⟩ ⟨2, id, lits, hints⟩ = ⟨dropR R hints, last, done⟩ := by unfold stepS; rw [if_neg (by rw [HR]; decide), if_pos rfl]
  exact ⟨A, n, c, last, done, by rw [HR], by rw [e]; exact h.less hG, hnc, by rw [e], by rw [e], hx⟩

set_option maxHeartbeats 8000000 in
theorem r11StepBad_c (A : Option Addr) (n c : Nat) (R : List (Int × List Int)) (last : Int) (done : Bool) (A1 : Option Addr) (n1 c1 : Nat) (lits : List Int) (A2 : Option Addr) (n2 c2 : Nat) (hints : List Int) (kind id : Int) (F : Nat → Prop) (w0 w : World) (h : RowsNO F w0 w A n R) (hF : ∀ b, F b → b < w.heap.size) (hW : Ext w0 w) (hnc : n ≤ c) (hi : Inv11 ⟨R, last, done⟩) (_hrl : n ≤ 100000) (h1 : IntSl w0 A1 n1 lits) (hc1 : n1 ≤ c1) (h2 : IntSl w0 A2 n2 hints) (_hc2 : n2 ≤ c2) (hmay : mayV ⟨kind, id, lits, hints⟩ = false) :
    Calls Tryz.prog 11 #[.agg #[.slice A n c, .int .i64 last, .bool done], .agg #[.int .i64 kind, .int .i64 id, .slice A1 n1 c1, .slice A2 n2 c2]] w (RetStepZ F w0 ⟨R, last, done⟩ ⟨kind, id, lits, hints⟩ w) := by
  have HY := Lib.hid hmay
  have HR : Hid (stepE ⟨R, last, done⟩ ⟨kind, id, lits, hints⟩ = 2) := by unfold Hid stepE; rw [hmay, if_pos rfl]
  clear hmay
  have HB0 := Lib.hid (((Blk.new w 38 #[.slice A n c, .int .i64 last, .bool done]).alloc (Obj.cells #[.int .i64 kind, .int .i64 id, .slice A1 n1 c1, .slice A2 n2 c2] 44)).alloc (Obj.cells #[.slice none 0 0, .int .i64 0, .bool false] 38))
  have HB1 := Lib.hid ((Blk.newg2 (w := w.alloc (Obj.cells #[.slice A n c, .int .i64 last, .bool done] 38)) (g := w.heap.size + 1) 44 #[.int .i64 kind, .int .i64 id, .slice A1 n1 c1, .slice A2 n2 c2] (by simp)).alloc (Obj.cells #[.slice none 0 0, .int .i64 0, .bool false] 38))
  have HB2 := Lib.hid (Blk.newg2 (w := (w.alloc (Obj.cells #[.slice A n c, .int .i64 last, .bool done] 38)).alloc (Obj.cells #[.int .i64 kind, .int .i64 id, .slice A1 n1 c1, .slice A2 n2 c2] 44)) (g := w.heap.size + 2) 38 #[.slice none 0 0, .int .i64 0, .bool false] (by simp))
  have HXA : Hid (Ext w (((w.alloc (Obj.cells #[.slice A n c, .int .i64 last, .bool done] 38)).alloc (Obj.cells #[.int .i64 kind, .int .i64 id, .slice A1 n1 c1, .slice A2 n2 c2] 44)).alloc (Obj.cells #[.slice none 0 0, .int .i64 0, .bool false] 38))) := (((Ext.refl _).alloc _).alloc _).alloc _
  have HS := Lib.hid h
  have HSN := Lib.hid (h.toN hW)
  have HW0 := Lib.hid hW
  have HFF := Lib.hid hF
  have HI := Lib.hid hi
  have HZ1 := Lib.hid h1
  have HS1 := Lib.hid (h1.ext hW)
  have HS2 := Lib.hid (h2.ext hW)
  have HL1 : Hid (lits.length = n1) := h1.1
  have HL2 : Hid (hints.length = n2) := h2.1
  have HLN : Hid (R.length = n) := h.1
  have b0 := HB1.out.cell 0
  have b1 := HB1.out.cell 1
  have b2 := HB1.out.cell 2
  have b3 := HB1.out.cell 3
  clear h hi h1 h2 hW hF
  go_enter Tryz.func11, Tryz.ntmps11
  go_wp2_with fail
  have HXB := Lib.hid (HXA.out.alloc (Obj.cells #[.int .i64 kind, .int .i64 id, .slice A1 n1 c1, .slice A2 n2 c2] 44))
  have hchk := r10Check_c kind id lits hints A1 n1 c1 A2 n2 c2 (w.heap.size + 3) _ (Blk.newg2 (w := (((w.alloc (Obj.cells #[.slice A n c, .int .i64 last, .bool done] 38)).alloc (Obj.cells #[.int .i64 kind, .int .i64 id, .slice A1 n1 c1, .slice A2 n2 c2] 44)).alloc (Obj.cells #[.slice none 0 0, .int .i64 0, .bool false] 38))) 44 #[.int .i64 kind, .int .i64 id, .slice A1 n1 c1, .slice A2 n2 c2] (by simp)) (HS1.out.ext HXB.out) hc1 (HS2.out.ext HXB.out)
  refine hchk.mono ?_
  clear hchk
  rintro e w2 ⟨rfl, hx2⟩
  rw [HY.out]
  have HX2 := Lib.hid (HXB.out.trans hx2)
  have HC0 := Lib.hid ((HB0.out.alloc (Obj.cells #[.int .i64 kind, .int .i64 id, .slice A1 n1 c1, .slice A2 n2 c2] 44)).ext hx2)
  have HC1 := Lib.hid ((HB1.out.alloc (Obj.cells #[.int .i64 kind, .int .i64 id, .slice A1 n1 c1, .slice A2 n2 c2] 44)).ext hx2)
  have HC2 := Lib.hid ((HB2.out.alloc (Obj.cells #[.int .i64 kind, .int .i64 id, .slice A1 n1 c1, .slice A2 n2 c2] 44)).ext hx2)
  clear hx2 b0 b1 b2 b3 HB0 HB1 HB2 HXA HXB
  have d0 := HC0.out.cell 0
  have d1 := HC0.out.cell 1
  have d2 := HC0.out.cell 2
  have s0 := HC1.out.cell 0
  have s1 := HC1.out.cell 1
  have s2 := HC1.out.cell 2
  have s3 := HC1.out.cell 3
  have r0 := HC2.out.cell 0
  have r1 := HC2.out.cell 1
  have r2 := HC2.out.cell 2
  have f0 := HC2.out.frozen 0
  have f1 := HC2.out.frozen 1
  have f2 := HC2.out.frozen 2
  go_wp2_with fail
  have hs := ((HC2.out.set_ 0 (.slice A n c)).set_ 1 (.int .i64 last)).set_ 2 (.bool done)
  have t0 := hs.cell 0
  have t1 := hs.cell 1
  have t2 := hs.cell 2
  refine bodyPost_ret (v := .tuple #[.agg #[.slice A n c, .int .i64 last, .bool done], .int .i64 2]) (by simp [results, Tryz.results11, go_sem, t0, t1, t2]) rfl ?_
  have hx9 := ((HX2.out.setCell (p := ⟨w.heap.size + 2, 0, none⟩) (by show w.heap.size ≤ w.heap.size + 2; omega) (.slice A n c)).setCell (p := ⟨w.heap.size + 2, 1, none⟩) (by show w.heap.size ≤ w.heap.size + 2; omega) (.int .i64 last)).setCell (p := ⟨w.heap.size + 2, 2, none⟩) (by show w.heap.size ≤ w.heap.size + 2; omega) (.bool done)
  exact stepR_bad HR.out (by decide) HS.out hnc hx9

set_option maxHeartbeats 8000000 in
theorem r11StepDel_c (A : Option Addr) (n c : Nat) (R : List (Int × List Int)) (last : Int) (done : Bool) (A1 : Option Addr) (n1 c1 : Nat) (lits : List Int) (A2 : Option Addr) (n2 c2 : Nat) (hints : List Int) (id : Int) (F : Nat → Prop) (w0 w : World) (h : RowsNO F w0 w A n R) (hF : ∀ b, F b → b < w.heap.size) (hW : Ext w0 w) (hnc : n ≤ c) (hi : Inv11 ⟨R, last, done⟩) (hrl : n ≤ 100000) (h1 : IntSl w0 A1 n1 lits) (hc1 : n1 ≤ c1) (h2 : IntSl w0 A2 n2 hints) (_hc2 : n2 ≤ c2) (hmay : mayV ⟨2, id, lits, hints⟩ = true) :
    Calls Tryz.prog 11 #[.agg #[.slice A n c, .int .i64 last, .bool done], .agg #[.int .i64 2, .int .i64 id, .slice A1 n1 c1, .slice A2 n2 c2]] w (RetStepZ F w0 ⟨R, last, done⟩ ⟨2, id, lits, hints⟩ w) := by
  have HY := Lib.hid hmay
  have HR : Hid (stepE ⟨R, last, done⟩ ⟨2, id, lits, hints⟩ = if dropOk R hints then 0 else 20) := by unfold Hid; rw [stepE_may hmay, if_pos rfl]
  have hw : withinV hints 1 = true := by
    unfold mayV at hmay
    rw [if_neg (show ¬ ((2 : Int) = 1) by decide), if_pos rfl] at hmay
    simp only [Bool.and_eq_true] at hmay
    exact hmay.2
  have HH1 : Hid (∀ y ∈ hints, 1 ≤ y) := fun y hy => by
    unfold withinV at hw
    simp only [Bool.and_eq_true, Bool.not_eq_true', List.any_eq_false] at hw
    have := hw.2 y hy
    unfold outV at this
    simp at this
    omega
  clear hmay hw
  have HB0 := Lib.hid (((Blk.new w 38 #[.slice A n c, .int .i64 last, .bool done]).alloc (Obj.cells #[.int .i64 2, .int .i64 id, .slice A1 n1 c1, .slice A2 n2 c2] 44)).alloc (Obj.cells #[.slice none 0 0, .int .i64 0, .bool false] 38))
  have HB1 := Lib.hid ((Blk.newg2 (w := w.alloc (Obj.cells #[.slice A n c, .int .i64 last, .bool done] 38)) (g := w.heap.size + 1) 44 #[.int .i64 2, .int .i64 id, .slice A1 n1 c1, .slice A2 n2 c2] (by simp)).alloc (Obj.cells #[.slice none 0 0, .int .i64 0, .bool false] 38))
  have HB2 := Lib.hid (Blk.newg2 (w := (w.alloc (Obj.cells #[.slice A n c, .int .i64 last, .bool done] 38)).alloc (Obj.cells #[.int .i64 2, .int .i64 id, .slice A1 n1 c1, .slice A2 n2 c2] 44)) (g := w.heap.size + 2) 38 #[.slice none 0 0, .int .i64 0, .bool false] (by simp))
  have HXA : Hid (Ext w (((w.alloc (Obj.cells #[.slice A n c, .int .i64 last, .bool done] 38)).alloc (Obj.cells #[.int .i64 2, .int .i64 id, .slice A1 n1 c1, .slice A2 n2 c2] 44)).alloc (Obj.cells #[.slice none 0 0, .int .i64 0, .bool false] 38))) := (((Ext.refl _).alloc _).alloc _).alloc _
  have HS := Lib.hid h
  have HSN := Lib.hid (h.toN hW)
  have HW0 := Lib.hid hW
  have HFF := Lib.hid hF
  have HI := Lib.hid hi
  have HZ1 := Lib.hid h1
  have HS1 := Lib.hid (h1.ext hW)
  have HS2 := Lib.hid (h2.ext hW)
  have HL1 : Hid (lits.length = n1) := h1.1
  have HL2 : Hid (hints.length = n2) := h2.1
  have HLN : Hid (R.length = n) := h.1
  have b0 := HB1.out.cell 0
  have b1 := HB1.out.cell 1
  have b2 := HB1.out.cell 2
  have b3 := HB1.out.cell 3
  clear h hi h1 h2 hW hF
  go_enter Tryz.func11, Tryz.ntmps11
  go_wp2_with fail
  have HXB := Lib.hid (HXA.out.alloc (Obj.cells #[.int .i64 2, .int .i64 id, .slice A1 n1 c1, .slice A2 n2 c2] 44))
  have hchk := r10Check_c 2 id lits hints A1 n1 c1 A2 n2 c2 (w.heap.size + 3) _ (Blk.newg2 (w := (((w.alloc (Obj.cells #[.slice A n c, .int .i64 last, .bool done] 38)).alloc (Obj.cells #[.int .i64 2, .int .i64 id, .slice A1 n1 c1, .slice A2 n2 c2] 44)).alloc (Obj.cells #[.slice none 0 0, .int .i64 0, .bool false] 38))) 44 #[.int .i64 2, .int .i64 id, .slice A1 n1 c1, .slice A2 n2 c2] (by simp)) (HS1.out.ext HXB.out) hc1 (HS2.out.ext HXB.out)
  refine hchk.mono ?_
  clear hchk
  rintro e w2 ⟨rfl, hx2⟩
  rw [HY.out]
  have HX2 := Lib.hid (HXB.out.trans hx2)
  have HC0 := Lib.hid ((HB0.out.alloc (Obj.cells #[.int .i64 2, .int .i64 id, .slice A1 n1 c1, .slice A2 n2 c2] 44)).ext hx2)
  have HC1 := Lib.hid ((HB1.out.alloc (Obj.cells #[.int .i64 2, .int .i64 id, .slice A1 n1 c1, .slice A2 n2 c2] 44)).ext hx2)
  have HC2 := Lib.hid ((HB2.out.alloc (Obj.cells #[.int .i64 2, .int .i64 id, .slice A1 n1 c1, .slice A2 n2 c2] 44)).ext hx2)
  clear hx2 b0 b1 b2 b3 HB0 HB1 HB2 HXA HXB
  have d0 := HC0.out.cell 0
  have d1 := HC0.out.cell 1
  have d2 := HC0.out.cell 2
  have s0 := HC1.out.cell 0
  have s1 := HC1.out.cell 1
  have s2 := HC1.out.cell 2
  have s3 := HC1.out.cell 3
  have r0 := HC2.out.cell 0
  have r1 := HC2.out.cell 1
  have r2 := HC2.out.cell 2
  have f0 := HC2.out.frozen 0
  have f1 := HC2.out.frozen 1
  have f2 := HC2.out.frozen 2
  go_wp2_with fail
  refine (r11Drop_c _ _ _ R last done _ _ _ hints (fun b => F b ∨ b = w.heap.size + 2) w0 _ ((HS.out.wider (fun b hb e => by rcases e with e | e; exact e; omega)).stay (Ext.stay HX2.out)) (fun b e => by have := HX2.out.size_le; rcases e with e | e; (have := HFF.out b e; omega); (have := HC2.out.lt; omega)) (HW0.out.trans HX2.out) hnc (HS2.out.ext HX2.out) HH1.out (by omega)).mono ?_
  rintro e w3 ⟨A3, n3, c3, rfl, hrn, hx3⟩
  have HRN := Lib.hid hrn
  have HX3 := Lib.hid (HX2.out.trans hx3)
  have HD0 := Lib.hid (HC0.out.ext hx3)
  have HD2 := Lib.hid (HC2.out.ext hx3)
  clear hx3 hrn d0 d1 d2 s0 s1 s2 s3 r0 r1 r2 f0 f1 f2
  obtain ⟨d, hd⟩ : ∃ d, dropOk R hints = d := ⟨_, rfl⟩
  have HDD := Lib.hid hd
  rw [hd] at HR ⊢
  clear hd
  have HN3 := Lib.hid (Blk.new w3 38 #[.slice none 0 0, .int .i64 0, .bool false])
  have q0 := HN3.out.cell 0
  have q1 := HN3.out.cell 1
  have q2 := HN3.out.cell 2
  have g0 := HN3.out.frozen 0
  have g1 := HN3.out.frozen 1
  have g2 := HN3.out.frozen 2
  have HX4 : Hid (Ext w3 (w3.alloc (Obj.cells #[.slice A3 n3 c3, .int .i64 last, .bool done] 38))) := (Ext.refl w3).alloc _
  have HQ4 := Lib.hid (Blk.new w3 38 #[.slice A3 n3 c3, .int .i64 last, .bool done])
  have HE0 := Lib.hid (HD0.out.ext HX4.out)
  have HE2 := Lib.hid (HD2.out.ext HX4.out)
  have HX5 := Lib.hid (HX3.out.trans HX4.out)
  cases d with
  | false =>
    have d0 := HE0.out.cell 0
    have d1 := HE0.out.cell 1
    have d2 := HE0.out.cell 2
    have r0 := HE2.out.cell 0
    have r1 := HE2.out.cell 1
    have r2 := HE2.out.cell 2
    have f0 := HE2.out.frozen 0
    have f1 := HE2.out.frozen 1
    have f2 := HE2.out.frozen 2
    go_wp2_with fail
    have hs := ((HE2.out.set_ 0 (.slice A n c)).set_ 1 (.int .i64 last)).set_ 2 (.bool done)
    have t0 := hs.cell 0
    have t1 := hs.cell 1
    have t2 := hs.cell 2
    refine bodyPost_ret (v := .tuple #[.agg #[.slice A n c, .int .i64 last, .bool done], .int .i64 20]) (by simp [results, Tryz.results11, go_sem, t0, t1, t2]) rfl ?_
    have hx9 := ((HX5.out.setCell (p := ⟨w.heap.size + 2, 0, none⟩) (by show w.heap.size ≤ w.heap.size + 2; omega) (.slice A n c)).setCell (p := ⟨w.heap.size + 2, 1, none⟩) (by show w.heap.size ≤ w.heap.size + 2; omega) (.int .i64 last)).setCell (p := ⟨w.heap.size + 2, 2, none⟩) (by show w.heap.size ≤ w.heap.size + 2; omega) (.bool done)
    exact stepR_bad HR.out (by decide) HS.out hnc hx9
  | true =>
    have y0 := HQ4.out.cell 0
    have y1 := HQ4.out.cell 1
    have y2 := HQ4.out.cell 2
    have d0 := HE0.out.cell 0
    have d1 := HE0.out.cell 1
    have d2 := HE0.out.cell 2
    have r0 := HE2.out.cell 0
    have r1 := HE2.out.cell 1
    have r2 := HE2.out.cell 2
    have f0 := HE2.out.frozen 0
    have f1 := HE2.out.frozen 1
    have f2 := HE2.out.frozen 2
    go_wp2_with fail
    have hs := ((HE2.out.set_ 0 (.slice A3 n3 c3)).set_ 1 (.int .i64 last)).set_ 2 (.bool done)
    have t0 := hs.cell 0
    have t1 := hs.cell 1
    have t2 := hs.cell 2
    refine bodyPost_ret (v := .tuple #[.agg #[.slice A3 n3 c3, .int .i64 last, .bool done], .int .i64 0]) (by simp [results, Tryz.results11, go_sem, t0, t1, t2]) rfl ?_
    have hx9 := ((HX5.out.setCell (p := ⟨w.heap.size + 2, 0, none⟩) (by show w.heap.size ≤ w.heap.size + 2; omega) (.slice A3 n3 c3)).setCell (p := ⟨w.heap.size + 2, 1, none⟩) (by show w.heap.size ≤ w.heap.size + 2; omega) (.int .i64 last)).setCell (p := ⟨w.heap.size + 2, 2, none⟩) (by show w.heap.size ≤ w.heap.size + 2; omega) (.bool done)
    have hst : Stay (fun b => (F b ∨ b = w.heap.size + 2) ∨ b = w2.heap.size ∨ b = w2.heap.size + 1) w3 _ := ((Ext.stay (F := fun b => (F b ∨ b = w.heap.size + 2) ∨ b = w2.heap.size ∨ b = w2.heap.size + 1) HX4.out).setCell (p := ⟨w.heap.size + 2, 0, none⟩) (.inl (.inl (.inr rfl))) (.slice A3 n3 c3)).setCell (p := ⟨w.heap.size + 2, 1, none⟩) (.inl (.inl (.inr rfl))) (.int .i64 last)
    exact stepR_del HR.out ((HRN.out HDD.out).1.stay (hst.setCell (p := ⟨w.heap.size + 2, 2, none⟩) (.inl (.inl (.inr rfl))) (.bool done))) (fun b e => .inl (.inl e)) (HRN.out HDD.out).2 hx9
end Go.Proofs.YtdgflniahoidmaaGreat
