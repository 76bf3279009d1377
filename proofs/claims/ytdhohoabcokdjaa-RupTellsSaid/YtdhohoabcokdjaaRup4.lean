/- Layer 8 (rup): all follows, with the clauses by which. -/
import Derived.Test.YtdhohoabcokdjaaRup3
import Derived.Test.YtdhohoabcokdjaaMapO
import Derived.Test.YtdhohoabcokdjaaHintsP
import Derived.Test.YtdhohoabcokdjaaStay
set_option maxRecDepth 100000
namespace Go.Proofs.Ytdhohoabcokdjaa
open Go.RowKit Go.Maps

/-- What propagate hands back: what followed is in the map, and how it ended. -/
def RetPropg (L : List (List Int)) (l0 : List Int) (gp b : Nat) (A : Option Addr) (n c : Nat) (w0 : World) (e : Ending) (w' : World) : Prop :=
  ∃ (t : List Int) (f : Int → Option Int) (k : Int), e = .returned (.int .i64 k) ∧ Fol L l0 t f ∧ EndF L (l0 ++ t) k ∧ MapO w' b t.length f ∧ Blk w' gp 87 #[.slice A n c, .map (some b)] ∧ Ext w0 w'

theorem failP_neg {l c : List Int} : (failP l c = true → clauseV l c = -1) ∧ (failP l c = false → decide (clauseV l c < 0) = false) := by
  have hbd := clauseV_bd l c
  refine ⟨fun h => by simpa [failP] using h, fun h => ?_⟩
  rw [decide_eq_false_iff_not]
  intro hlt
  have : clauseV l c = -1 := by omega
  rw [failP, this] at h
  cases h

set_option maxHeartbeats 4000000 in
theorem propg_c (w0 w : World) (gp b : Nat) (A : Option Addr) (n c : Nat) (L : List (List Int)) (v : Value) (l0 : List Int) (hrows : RowsSl w0 A n L) (hx0 : Ext w0 w) (hgb : Blk w gp 87 #[.slice A n c, .map (some b)]) (hm : MapO w b 0 fun _ => none)
    (hbb : w0.heap.size ≤ b) (ho : OwnI w w0.heap.size v l0) (hg : Good l0) (hbl : ∀ x ∈ l0, -100000 ≤ x ∧ x ≤ 100000) (hsm : l0.length ≤ 100000000) (hM : mostN L ≤ 1000000000) :
    Calls Try.prog 58 #[.pointer (some ⟨gp, 0, none⟩), v] w (RetPropg L l0 gp b A n c w0) := by
  have hn := hrows.len
  have HL := Lib.hid hrows.1
  have HMO := Lib.hid (openN_most L l0)
  have HBL := Lib.hid hbl
  have HO := Lib.hid ho
  have HG := Lib.hid hg
  have HGB := Lib.hid hgb
  have HMM := Lib.hid hm
  have HX0 := Lib.hid hx0
  clear hbl ho hg hgb hm hx0
  go_enter Try.func58, Try.ntmps58
  go_wp2_with fail
  go_loopw [1] (fun o wr => ∃ (t : List Int) (f : Int → Option Int), Fol L l0 t f ∧ ((l0 ++ t).length : Int) + openN L (l0 ++ t) ≤ l0.length + mostN L ∧ (∀ x ∈ l0 ++ t, -100000 ≤ x ∧ x ≤ 100000) ∧ OwnI wr w0.heap.size o (l0 ++ t) ∧ MapO wr b t.length f ∧ Blk wr gp 87 #[.slice A n c, .map (some b)] ∧ Ext w0 wr) (fun o _ => l0.length + mostN L + 1 - slen o)
  case atStart =>
    exact ⟨[], _, Fol.nil HG.out, by have := HMO.out; simp; omega, by simpa using HBL.out, by simpa using HO.out, HMM.out, HGB.out, HX0.out⟩
  case round =>
    obtain ⟨t0, f0, hf0, hlen0, hbd0, ho0, hm0, hb0, hx0⟩ := hrel
    have hsl0 := ho0.slen
    have HSL0 := Lib.hid hsl0
    have HF0 := Lib.hid hf0
    have HLEN0 := Lib.hid hlen0
    have HBD0 := Lib.hid hbd0
    have HO0 := Lib.hid ho0
    have HM0 := Lib.hid hm0
    have HB0 := Lib.hid hb0
    have HX1 := Lib.hid hx0
    have hc0 := hb0.cell 0
    have hc1 := hb0.cell 1
    clear hsl0 hf0 hlen0 hbd0 ho0 hm0 hb0 hx0
    go_wp2_with fail
    go_loopw [1, 5, 15] (fun o g i wr => ∃ (k : Nat) (t : List Int) (f : Int → Option Int) (gb : Bool), k ≤ n ∧ i = .int .i64 k ∧ g = .bool gb ∧ SweepF L l0 t0 t k gb ∧ Fol L l0 t f ∧ ((l0 ++ t).length : Int) + openN L (l0 ++ t) ≤ l0.length + mostN L ∧ (∀ x ∈ l0 ++ t, -100000 ≤ x ∧ x ≤ 100000) ∧ OwnI wr w0.heap.size o (l0 ++ t) ∧ MapO wr b t.length f ∧ Blk wr gp 87 #[.slice A n c, .map (some b)] ∧ Ext w0 wr) (fun _ _ i _ => n - (intOf i).toNat)
    case atStart =>
      exact ⟨0, t0, f0, false, Nat.zero_le _, rfl, rfl, SweepF.nil L l0 t0, HF0.out, HLEN0.out, HBD0.out, HO0.out, HM0.out, HB0.out, HX1.out⟩
    case round =>
      obtain ⟨k, t, f, gb, hk, rfl, rfl, hsw, hf, hlen, hbd, ho, hm, hb, hx⟩ := hrel
      have hlt2 : (l0 ++ t).length ≤ 1100000000 := by have := openN_pos L (l0 ++ t); omega
      have htl : t.length ≤ 1100000000 := by rw [List.length_append] at hlt2; omega
      obtain ⟨Ao, no, co, rfl, hso⟩ := ho.sl (by omega) (fun x hx => by have := hbd x hx; omega)
      have hno : no ≤ 1100000000 := by have := hso.1; omega
      have hd0 := hb.cell 0
      have hd1 := hb.cell 1
      have HSW := Lib.hid hsw
      have HF := Lib.hid hf
      have HLEN := Lib.hid hlen
      have HBD := Lib.hid hbd
      have HO := Lib.hid ho
      have HM := Lib.hid hm
      have HB := Lib.hid hb
      have HX := Lib.hid hx
      have HSO := Lib.hid hso
      have HLT2 := Lib.hid hlt2
      clear hsw hf hlen hbd ho hm hb hx hso hlt2
      by_cases hlt : k < n
      · obtain ⟨ad, xs, A1, n1, c1, rfl, hy, hcx, hrow⟩ := (hrows.ext HX.out).at_ hlt
        have HROW := Lib.hid hrow
        obtain ⟨hfp1, hfp2⟩ := failP_neg (l := l0 ++ t) (c := xs)
        cases hfp : failP (l0 ++ t) xs
        · have hcv := hfp2 hfp
          cases hu : unitB (l0 ++ t) xs
          · have HSK := Lib.hid (HSW.out.skip hy.out hfp hu)
            have HU := Lib.hid hu
            have HCV := Lib.hid hcv
            clear hfp hu hfp1 hfp2 hrow hcv
            go_wp2_with fail
            refine (clause_c _ _ _ (l0 ++ t) _ _ _ xs _ HSO.out HROW.out (by omega)).mono ?_
            rintro e w1 ⟨rfl, hx1⟩
            have HX1' := Lib.hid hx1
            have hcv := HCV.out
            clear hx1
            go_wp2_with fail
            refine (unit_c _ _ _ (l0 ++ t) _ _ _ xs _ (HSO.out.ext HX1'.out) (HROW.out.ext HX1'.out) (by omega)).mono ?_
            rintro e w2 ⟨rfl, hx2⟩
            rw [HU.out]
            have HX2 := Lib.hid (HX1'.out.trans hx2)
            clear hx2 hcv
            go_wp2_with fail
            go_roundw
            case rel => exact ⟨k + 1, t, f, gb, by omega, by go_num, rfl, HSK.out, HF.out, HLEN.out, HBD.out, HO.out.ext HX2.out, HM.out.ext HX2.out, HB.out.ext HX2.out, HX.out.trans HX2.out⟩
            case measure => simp [intOf]; omega
          · have HSK := Lib.hid (HSW.out.grow (unitU (l0 ++ t) xs))
            have HFS := Lib.hid (HF.out.snoc hy.out hu)
            have hop := open_unit (List.mem_of_getElem? hy.out) hu
            obtain ⟨_, hu1, hu2⟩ := varV_pos (unit_lits hu).2.1
            have HOP := Lib.hid hop
            have HU := Lib.hid hu
            have HCV := Lib.hid hcv
            clear hfp hu hfp1 hfp2 hrow hop hcv
            go_wp2_with fail
            refine (clause_c _ _ _ (l0 ++ t) _ _ _ xs _ HSO.out HROW.out (by omega)).mono ?_
            rintro e w1 ⟨rfl, hx1⟩
            have HX1' := Lib.hid hx1
            have hcv := HCV.out
            clear hx1
            go_wp2_with fail
            refine (unit_c _ _ _ (l0 ++ t) _ _ _ xs _ (HSO.out.ext HX1'.out) (HROW.out.ext HX1'.out) (by omega)).mono ?_
            rintro e w2 ⟨rfl, hx2⟩
            rw [HU.out]
            have HX2 := Lib.hid (HX1'.out.trans hx2)
            have hb2 := HB.out.ext HX2.out
            have he0 := hb2.cell 0
            have he1 := hb2.cell 1
            have HB2 := Lib.hid hb2
            clear hx2 hcv hb2
            go_wp2_with (first
              | (at_mapUpdate; refine wpList_setO _ rfl _ _ _ rfl b t.length f rfl (HM.out.ext HX2.out) (by omega) _ _ rfl rfl (by omega) (by omega) ?_; intro w3 hm3 hg3; have HM3 := Lib.hid hm3; have HG3 := Lib.hid hg3; have HO3 := Lib.hid ((HO.out.ext HX2.out).kept hg3 (Or.inr (Ne.symm ((HM.out.ext HX2.out).ne_own (HO.out.ext HX2.out))))); have hsz3 : w0.heap.size ≤ w3.heap.size := (by have := hg3.size; have := (HX.out.trans HX2.out).size_le; omega); clear hm3 hg3)
              | (at_builtin; refine append1 _ rfl (.tmp 38) (.tmp 40) rfl w0.heap.size _ _ rfl (HO3.out.alloc _) _ _ _ rfl (cell_one _ _ _) (by omega) (by have := HLT2.out; omega) (by simp; omega) ?_; intro v5 w5 ho5 hg5 hloc; clear hloc; have HO5 := Lib.hid ho5; have HG5 := Lib.hid hg5; clear ho5 hg5))
            go_roundw
            case rel =>
              have hb3 := HB2.out.grown HG3.out (fun e => (HM.out.ext HX2.out).ne_blk HB2.out (by simpa using e.symm))
              have hb5 := (hb3.alloc (Obj.cells #[.int .i64 (unitU (l0 ++ t) xs)] 3)).grown HG5.out (fun e => OwnI.ne_blk (HO3.out.alloc (Obj.cells #[.int .i64 (unitU (l0 ++ t) xs)] 3)) (hb3.alloc (Obj.cells #[.int .i64 (unitU (l0 ++ t) xs)] 3)) (by decide) e.symm)
              have hx3 := (HX.out.trans HX2.out).grown HG3.out (fun j hj => by cases hj; exact hbb)
              have hx5 := (hx3.alloc (Obj.cells #[.int .i64 (unitU (l0 ++ t) xs)] 3)).grown HG5.out (fun j hj => (HO3.out.blk j hj).1)
              have hm5 := (HM3.out.ext ((Ext.refl _).alloc (Obj.cells #[.int .i64 (unitU (l0 ++ t) xs)] 3))).grown HG5.out ((HM3.out.ext ((Ext.refl _).alloc (Obj.cells #[.int .i64 (unitU (l0 ++ t) xs)] 3))).ne_own (HO3.out.alloc (Obj.cells #[.int .i64 (unitU (l0 ++ t) xs)] 3)))
              refine ⟨k + 1, t ++ [unitU (l0 ++ t) xs], _, true, by omega, by go_num, rfl, HSK.out, HFS.out, ?_, ?_, ?_, ?_, hb5, hx5⟩
              · have e1 := HLEN.out
                have e2 := HOP.out
                rw [← List.append_assoc]
                simp only [List.length_append, List.length_singleton] at e1 ⊢
                omega
              · intro x hx
                rw [← List.append_assoc] at hx
                rcases List.mem_append.1 hx with hx | hx
                · exact HBD.out x hx
                · rw [List.mem_singleton.1 hx]; omega
              · rw [← List.append_assoc]; exact HO5.out
              · rw [List.length_append]; exact hm5
            case measure => simp [intOf]; omega
        · have hcv := hfp1 hfp
          have HE : Hid (EndF L (l0 ++ t) (k : Int)) := by
            unfold Hid
            exact ⟨fun h => by omega, fun _ => ⟨k, xs, rfl, hy.out, hfp⟩⟩
          have HCV := Lib.hid hcv
          clear hfp hfp1 hfp2 hrow hcv
          go_wp2_with fail
          refine (clause_c _ _ _ (l0 ++ t) _ _ _ xs _ HSO.out HROW.out (by omega)).mono ?_
          rintro e w1 ⟨rfl, hx1⟩
          rw [HCV.out]
          have HX1' := Lib.hid hx1
          clear hx1
          go_wp2_with fail
          try rw [Exit.noGoto_ret]
          go_ret
          exact ⟨t, f, _, rfl, HF.out, HE.out, HM.out.ext HX1'.out, HB.out.ext HX1'.out, HX.out.trans HX1'.out⟩
      · cases gb with
        | true =>
          have hgrow := HSW.out.1 rfl
          go_wp2_with fail
          go_roundw
          case rel => exact ⟨t, f, HF.out, HLEN.out, HBD.out, HO.out, HM.out, HB.out, HX.out⟩
          case measure =>
            have e1 := HSL0.out
            have e2 := HO.out.slen
            have e3 := HLEN.out
            have e4 := openN_pos L (l0 ++ t)
            have e5 := HLEN0.out
            rw [e1, e2]
            simp only [List.length_append] at e3 e5 ⊢
            omega
        | false =>
          have hall := (HSW.out.2 rfl).2
          have HE : Hid (EndF L (l0 ++ t) (-1)) := by
            unfold Hid
            refine ⟨fun _ => ⟨rfl, ?_⟩, fun h => by omega⟩
            rw [take_len_of HL.out hlt] at hall
            exact hall
          clear hall
          go_wp2_with fail
          go_ret
          exact ⟨t, f, _, rfl, HF.out, HE.out, HM.out, HB.out, HX.out⟩
end Go.Proofs.Ytdhohoabcokdjaa
