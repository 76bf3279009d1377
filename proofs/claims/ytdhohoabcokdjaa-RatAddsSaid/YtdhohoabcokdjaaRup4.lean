/- Layer 8 (rup): all follows, with the clauses by which. -/
import Derived.Test.YtdhohoabcokdjaaRup1
import Derived.Test.YtdhohoabcokdjaaMap
import Derived.Test.YtdhohoabcokdjaaRupP
import Derived.Test.YtdhohoabcokdjaaApp
import Derived.Laws.EntriesVeiled
set_option maxRecDepth 100000
namespace Go.Proofs.Ytdhohoabcokdjaa
open Go.RowKit Go.Maps

/-- What propagate hands back: what followed is in the map, and how it ended. -/
def RetPropg (L : List (List Int)) (l0 : List Int) (gp b : Nat) (A : Option Addr) (n c : Nat) (w0 : World) (e : Ending) (w' : World) : Prop :=
  ∃ (t : List Int) (f : Int → Option Int) (k : Int), e = .returned (.int .i64 k) ∧ Fol L l0 t f ∧ EndF L (l0 ++ t) k ∧ MapO w' b t.length f ∧ Blk w' gp 87 #[.slice A n c, .map (some b)] ∧ Ext w0 w'

theorem failP_neg {l c : List Int} : (failP l c = true → clauseV l c = -1) ∧ (failP l c = false → decide (clauseV l c < 0) = false) := by
  have hbd := clauseV_bd l c
  refine ⟨fun h => by simpa [failP] using h, fun h => ?_⟩
  rw [decide_eq_false_iff_not]
  intro hlt
  have : clauseV l c = -1 := by omega
  rw [failP, this] at h
  cases h

set_option maxHeartbeats 4000000 in
theorem propg_c (w0 w : World) (gp b : Nat) (A : Option Addr) (n c : Nat) (L : List (List Int)) (v : Value) (l0 : List Int) (hrows : RowsSl w0 A n L) (hx0 : Ext w0 w) (hgb : Blk w gp 87 #[.slice A n c, .map (some b)]) (hm : MapO w b 0 fun _ => none)
    (hbb : w0.heap.size ≤ b) (ho : OwnI w w0.heap.size v l0) (hg : Good l0) (hbl : ∀ x ∈ l0, -100000 ≤ x ∧ x ≤ 100000) (hsm : l0.length ≤ 100000000) (hM : mostN L ≤ 1000000000) :
    Calls Try.prog 58 #[.pointer (some ⟨gp, 0, none⟩), v] w (RetPropg L l0 gp b A n c w0) := by
  have hn := hrows.len
  have HL := Lib.hid hrows.1
  have HMO := Lib.hid (openN_most L l0)
  have HBL := Lib.hid hbl
  have HO := Lib.hid ho
  have HG := Lib.hid hg
  have HGB := Lib.hid hgb
  have HMM := Lib.hid hm
  have HX0 := Lib.hid hx0
  clear hbl ho hg hgb hm hx0
  go_enter Try.func58, Try.ntmps58
  go_wp2_with fail
  go_loopw [1] (fun o wr => ∃ (t : List Int) (f : Int → Option Int), Fol L l0 t f ∧ ((l0 ++ t).length : Int) + openN L (l0 ++ t) ≤ l0.length + mostN L ∧ (∀ x ∈ l0 ++ t, -100000 ≤ x ∧ x ≤ 100000) ∧ OwnI wr w0.heap.size o (l0 ++ t) ∧ MapO wr b t.length f ∧ Blk wr gp 87 #[.slice A n c, .map (some b)] ∧ Ext w0 wr) (fun o _ => l0.length + mostN L + 1 - slen o)
  case atStart =>
    exact ⟨[], _, Fol.nil HG.out, by have := HMO.out; simp; omega, by simpa using HBL.out, by simpa using HO.out, HMM.out, HGB.out, HX0.out⟩
  case round =>
    obtain ⟨t0, f0, hf0, hlen0, hbd0, ho0, hm0, hb0, hx0⟩ := hrel
    have hsl0 := ho0.slen
    have HSL0 := Lib.hid hsl0
    have HF0 := Lib.hid hf0
    have HLEN0 := Lib.hid hlen0
    have HBD0 := Lib.hid hbd0
    have HO0 := Lib.hid ho0
    have HM0 := Lib.hid hm0
    have HB0 := Lib.hid hb0
    have HX1 := Lib.hid hx0
    have hc0 := hb0.cell 0
    have hc1 := hb0.cell 1
    clear hsl0 hf0 hlen0 hbd0 ho0 hm0 hb0 hx0
    go_wp2_with fail
    go_loopw [1, 5, 15] (fun o g i wr => ∃ (k : Nat) (t : List Int) (f : Int → Option Int) (gb : Bool), k ≤ n ∧ i = .int .i64 k ∧ g = .bool gb ∧ SweepF L l0 t0 t k gb ∧ Fol L l0 t f ∧ ((l0 ++ t).length : Int) + openN L (l0 ++ t) ≤ l0.length + mostN L ∧ (∀ x ∈ l0 ++ t, -100000 ≤ x ∧ x ≤ 100000) ∧ OwnI wr w0.heap.size o (l0 ++ t) ∧ MapO wr b t.length f ∧ Blk wr gp 87 #[.slice A n c, .map (some b)] ∧ Ext w0 wr) (fun _ _ i _ => n - (intOf i).toNat)
    case atStart =>
      exact ⟨0, t0, f0, false, Nat.zero_le _, rfl, rfl, SweepF.nil L l0 t0, HF0.out, HLEN0.out, HBD0.out, HO0.out, HM0.out, HB0.out, HX1.out⟩
    case round =>
      obtain ⟨k, t, f, gb, hk, rfl, rfl, hsw, hf, hlen, hbd, ho, hm, hb, hx⟩ := hrel
      have hlt2 : (l0 ++ t).length ≤ 1100000000 := by have := openN_pos L (l0 ++ t); omega
      have htl : t.length ≤ 1100000000 := by rw [List.length_append] at hlt2; omega
      obtain ⟨Ao, no, co, rfl, hso⟩ := ho.sl (by omega) (fun x hx => by have := hbd x hx; omega)
      have hno : no ≤ 1100000000 := by have := hso.1; omega
      have hd0 := hb.cell 0
      have hd1 := hb.cell 1
      have HSW := Lib.hid hsw
      have HF := Lib.hid hf
      have HLEN := Lib.hid hlen
      have HBD := Lib.hid hbd
      have HO := Lib.hid ho
      have HM := Lib.hid hm
      have HB := Lib.hid hb
      have HX := Lib.hid hx
      have HSO := Lib.hid hso
      have HLT2 := Lib.hid hlt2
      clear hsw hf hlen hbd ho hm hb hx hso hlt2
      by_cases hlt : k < n
      · obtain ⟨ad, xs, A1, n1, c1, rfl, hy, hcx, hrow⟩ := (hrows.ext HX.out).at_ hlt
        have HROW := Lib.hid hrow
        obtain ⟨hfp1, hfp2⟩ := failP_neg (l := l0 ++ t) (c := xs)
        cases hfp : failP (l0 ++ t) xs
        · have hcv := hfp2 hfp
          cases hu : unitB (l0 ++ t) xs
          · have HSK := Lib.hid (HSW.out.skip hy.out hfp hu)
            have HU := Lib.hid hu
            have HCV := Lib.hid hcv
            clear hfp hu hfp1 hfp2 hrow hcv
            go_wp2_with fail
            refine (clause_c _ _ _ (l0 ++ t) _ _ _ xs _ HSO.out HROW.out (by omega)).mono ?_
            rintro e w1 ⟨rfl, hx1⟩
            have HX1' := Lib.hid hx1
            have hcv := HCV.out
            clear hx1
            go_wp2_with fail
            refine (unit_c _ _ _ (l0 ++ t) _ _ _ xs _ (HSO.out.ext HX1'.out) (HROW.out.ext HX1'.out) (by omega)).mono ?_
            rintro e w2 ⟨rfl, hx2⟩
            rw [HU.out]
            have HX2 := Lib.hid (HX1'.out.trans hx2)
            clear hx2 hcv
            go_wp2_with fail
            go_roundw
            case rel => exact ⟨k + 1, t, f, gb, by omega, by go_num, rfl, HSK.out, HF.out, HLEN.out, HBD.out, HO.out.ext HX2.out, HM.out.ext HX2.out, HB.out.ext HX2.out, HX.out.trans HX2.out⟩
            case measure => simp [intOf]; omega
          · have HSK := Lib.hid (HSW.out.grow (unitU (l0 ++ t) xs))
            have HFS := Lib.hid (HF.out.snoc hy.out hu)
            have hop := open_unit (List.mem_of_getElem? hy.out) hu
            obtain ⟨_, hu1, hu2⟩ := varV_pos (unit_lits hu).2.1
            have HOP := Lib.hid hop
            have HU := Lib.hid hu
            have HCV := Lib.hid hcv
            clear hfp hu hfp1 hfp2 hrow hop hcv
            go_wp2_with fail
            refine (clause_c _ _ _ (l0 ++ t) _ _ _ xs _ HSO.out HROW.out (by omega)).mono ?_
            rintro e w1 ⟨rfl, hx1⟩
            have HX1' := Lib.hid hx1
            have hcv := HCV.out
            clear hx1
            go_wp2_with fail
            refine (unit_c _ _ _ (l0 ++ t) _ _ _ xs _ (HSO.out.ext HX1'.out) (HROW.out.ext HX1'.out) (by omega)).mono ?_
            rintro e w2 ⟨rfl, hx2⟩
            rw [HU.out]
            have HX2 := Lib.hid (HX1'.out.trans hx2)
            have hb2 := HB.out.ext HX2.out
            have he0 := hb2.cell 0
            have he1 := hb2.cell 1
            have HB2 := Lib.hid hb2
            clear hx2 hcv hb2
            go_wp2_with (first
              | (at_mapUpdate; refine wpList_setO _ rfl _ _ _ rfl b t.length f rfl (HM.out.ext HX2.out) (by omega) _ _ rfl rfl (by omega) (by omega) ?_; intro w3 hm3 hg3; have HM3 := Lib.hid hm3; have HG3 := Lib.hid hg3; have HO3 := Lib.hid ((HO.out.ext HX2.out).kept hg3 (Or.inr (Ne.symm ((HM.out.ext HX2.out).ne_own (HO.out.ext HX2.out))))); have hsz3 : w0.heap.size ≤ w3.heap.size := (by have := hg3.size; have := (HX.out.trans HX2.out).size_le; omega); clear hm3 hg3)
              | (at_builtin; refine append1 _ rfl (.tmp 38) (.tmp 40) rfl w0.heap.size _ _ rfl (HO3.out.alloc _) _ _ _ rfl (cell_one _ _ _) (by omega) (by have := HLT2.out; omega) (by simp; omega) ?_; intro v5 w5 ho5 hg5 hloc; clear hloc; have HO5 := Lib.hid ho5; have HG5 := Lib.hid hg5; clear ho5 hg5))
            go_roundw
            case rel =>
              have hb3 := HB2.out.grown HG3.out (fun e => (HM.out.ext HX2.out).ne_blk HB2.out (by simpa using e.symm))
              have hb5 := (hb3.alloc (Obj.cells #[.int .i64 (unitU (l0 ++ t) xs)] 3)).grown HG5.out (fun e => OwnI.ne_blk (HO3.out.alloc (Obj.cells #[.int .i64 (unitU (l0 ++ t) xs)] 3)) (hb3.alloc (Obj.cells #[.int .i64 (unitU (l0 ++ t) xs)] 3)) (by decide) e.symm)
              have hx3 := (HX.out.trans HX2.out).grown HG3.out (fun j hj => by cases hj; exact hbb)
              have hx5 := (hx3.alloc (Obj.cells #[.int .i64 (unitU (l0 ++ t) xs)] 3)).grown HG5.out (fun j hj => (HO3.out.blk j hj).1)
              have hm5 := (HM3.out.ext ((Ext.refl _).alloc (Obj.cells #[.int .i64 (unitU (l0 ++ t) xs)] 3))).grown HG5.out ((HM3.out.ext ((Ext.refl _).alloc (Obj.cells #[.int .i64 (unitU (l0 ++ t) xs)] 3))).ne_own (HO3.out.alloc (Obj.cells #[.int .i64 (unitU (l0 ++ t) xs)] 3)))
              refine ⟨k + 1, t ++ [unitU (l0 ++ t) xs], _, true, by omega, by go_num, rfl, HSK.out, HFS.out, ?_, ?_, ?_, ?_, hb5, hx5⟩
              · have e1 := HLEN.out
                have e2 := HOP.out
                rw [← List.append_assoc]
                simp only [List.length_append, List.length_singleton] at e1 ⊢
                omega
              · intro x hx
                rw [← List.append_assoc] at hx
                rcases List.mem_append.1 hx with hx | hx
                · exact HBD.out x hx
                · rw [List.mem_singleton.1 hx]; omega
              · rw [← List.append_assoc]; exact HO5.out
              · rw [List.length_append]; exact hm5
            case measure => simp [intOf]; omega
        · have hcv := hfp1 hfp
          have HE : Hid (EndF L (l0 ++ t) (k : Int)) := by
            unfold Hid
            exact ⟨fun h => by omega, fun _ => ⟨k, xs, rfl, hy.out, hfp⟩⟩
          have HCV := Lib.hid hcv
          clear hfp hfp1 hfp2 hrow hcv
          go_wp2_with fail
          refine (clause_c _ _ _ (l0 ++ t) _ _ _ xs _ HSO.out HROW.out (by omega)).mono ?_
          rintro e w1 ⟨rfl, hx1⟩
          rw [HCV.out]
          have HX1' := Lib.hid hx1
          clear hx1
          go_wp2_with fail
          try rw [Exit.noGoto_ret]
          go_ret
          exact ⟨t, f, _, rfl, HF.out, HE.out, HM.out.ext HX1'.out, HB.out.ext HX1'.out, HX.out.trans HX1'.out⟩
      · cases gb with
        | true =>
          have hgrow := HSW.out.1 rfl
          go_wp2_with fail
          go_roundw
          case rel => exact ⟨t, f, HF.out, HLEN.out, HBD.out, HO.out, HM.out, HB.out, HX.out⟩
          case measure =>
            have e1 := HSL0.out
            have e2 := HO.out.slen
            have e3 := HLEN.out
            have e4 := openN_pos L (l0 ++ t)
            have e5 := HLEN0.out
            rw [e1, e2]
            simp only [List.length_append] at e3 e5 ⊢
            omega
        | false =>
          have hall := (HSW.out.2 rfl).2
          have HE : Hid (EndF L (l0 ++ t) (-1)) := by
            unfold Hid
            refine ⟨fun _ => ⟨rfl, ?_⟩, fun h => by omega⟩
            rw [take_len_of HL.out hlt] at hall
            exact hall
          clear hall
          go_wp2_with fail
          go_ret
          exact ⟨t, f, _, rfl, HF.out, HE.out, HM.out, HB.out, HX.out⟩
end Go.Proofs.Ytdhohoabcokdjaa

/- Layer 8 (rup): what puts a clause behind those by which its opposites followed. -/
namespace Go.Proofs.Ytdhohoabcokdjaa
open Go.RowKit Go.Maps

theorem enters_put : Enters 92 := by
  intro args w
  go_simp

/-- The blocks of gather: what was seen (gs, sb), the trace (gt, gp, bb), the function (gf), what comes out (go). -/
structure GMem (base gs gt gf go gp sb bb : Nat) (A : Option Addr) (n c kb : Nat) (f : Int → Option Int) (w : World) (v : Value) (s o : List Int) : Prop where
  cs : Blk w gs 85 #[.map (some sb)]
  ct : Blk w gt 84 #[.pointer (some ⟨gp, 0, none⟩)]
  cf : Blk w gf 89 #[.func (.func 92) #[] #[.pointer (some ⟨gs, 0, none⟩), .pointer (some ⟨gt, 0, none⟩), .pointer (some ⟨gf, 0, none⟩), .pointer (some ⟨go, 0, none⟩)]]
  co : Blk w go 22 #[v]
  cp : Blk w gp 87 #[.slice A n c, .map (some bb)]
  ms : Cnt w sb s.length (cntV s)
  mb : MapO w bb kb f
  own : OwnI w base v o
  sb_bb : sb ≠ bb
  b1 : base ≤ sb
  b2 : base ≤ go

theorem Cnt.ne_blk {w : World} {b k g : Nat} {f : Int → Int} {t : TypeId} {cs : Array Value} (h : Cnt w b k f) (hg : Blk w g t cs) : b ≠ g := by
  obtain ⟨D, ⟨es, cl, hb, _⟩, _⟩ := h
  rintro rfl
  unfold Blk at hg
  rw [hg] at hb
  cases hb
theorem Cnt.ne_own {w : World} {b k base : Nat} {f : Int → Int} {v : Value} {xs : List Int} (h : Cnt w b k f) (ho : OwnI w base v xs) : some b ≠ v.ownBlock := by
  obtain ⟨D, ⟨es, cl, hb, _⟩, _⟩ := h
  rcases ho.2 with ⟨rfl, _⟩ | ⟨g, cap, cur, rfl, _, hg, _⟩
  · simp [Value.ownBlock]
  · intro e
    have e' : b = g := by simpa [Value.ownBlock] using e
    subst e'
    rw [hg] at hb
    cases hb
theorem GMem.ext {base gs gt gf go gp sb bb : Nat} {A : Option Addr} {n c kb : Nat} {f : Int → Option Int} {w w' : World} {v : Value} {s o : List Int} (h : GMem base gs gt gf go gp sb bb A n c kb f w v s o) (hx : Ext w w') : GMem base gs gt gf go gp sb bb A n c kb f w' v s o :=
  ⟨h.cs.ext hx, h.ct.ext hx, h.cf.ext hx, h.co.ext hx, h.cp.ext hx, h.ms.ext hx, h.mb.ext hx, h.own.ext hx, h.sb_bb, h.b1, h.b2⟩
/-- The map of what was seen was written. -/
theorem GMem.seen {base gs gt gf go gp sb bb : Nat} {A : Option Addr} {n c kb : Nat} {f : Int → Option Int} {w w' : World} {v : Value} {s s' o : List Int} (h : GMem base gs gt gf go gp sb bb A n c kb f w v s o) (hg : w.grownBy w' (some sb)) (hc : Cnt w' sb s'.length (cntV s')) : GMem base gs gt gf go gp sb bb A n c kb f w' v s' o :=
  ⟨h.cs.grown hg (fun e => h.ms.ne_blk h.cs (by simpa using e.symm)), h.ct.grown hg (fun e => h.ms.ne_blk h.ct (by simpa using e.symm)), h.cf.grown hg (fun e => h.ms.ne_blk h.cf (by simpa using e.symm)), h.co.grown hg (fun e => h.ms.ne_blk h.co (by simpa using e.symm)),
    h.cp.grown hg (fun e => h.ms.ne_blk h.cp (by simpa using e.symm)), hc, h.mb.grown hg (fun e => h.sb_bb (by simpa using e.symm)), h.own.kept hg (Or.inr (fun e => h.ms.ne_own h.own e.symm)), h.sb_bb, h.b1, h.b2⟩
/-- A number was put behind all, and laid down. -/
theorem GMem.put {base gs gt gf go gp sb bb : Nat} {A : Option Addr} {n c kb : Nat} {f : Int → Option Int} {w w3 : World} {v v' : Value} {s o o' : List Int} {ob : Obj} (h : GMem base gs gt gf go gp sb bb A n c kb f w v s o) (hg : (w.alloc ob).grownBy w3 v.ownBlock) (ho : OwnI w3 base v' o') :
    GMem base gs gt gf go gp sb bb A n c kb f (w3.setCell ⟨go, 0, none⟩ v') v' s o' ∧ (∀ w0, w0.heap.size ≤ base → Ext w0 w → Ext w0 (w3.setCell ⟨go, 0, none⟩ v')) := by
  have h1 := h.ext ((Ext.refl w).alloc ob)
  have cs := h1.cs.grown hg (Ne.symm (h1.own.ne_blk h1.cs (by decide)))
  have ct := h1.ct.grown hg (Ne.symm (h1.own.ne_blk h1.ct (by decide)))
  have cf := h1.cf.grown hg (Ne.symm (h1.own.ne_blk h1.cf (by decide)))
  have co := h1.co.grown hg (Ne.symm (h1.own.ne_blk h1.co (by decide)))
  have cp := h1.cp.grown hg (Ne.symm (h1.own.ne_blk h1.cp (by decide)))
  have ms := h1.ms.grown hg (h1.ms.ne_own h1.own)
  have mb := h1.mb.grown hg (h1.mb.ne_own h1.own)
  have vg : v'.ownBlock ≠ some go := ho.ne_blk co (by decide)
  have gset : w3.grownBy (w3.setCell ⟨go, 0, none⟩ v') (some go) := ⟨rfl, rfl, rfl, by rw [World.size_setCell]; exact Nat.le_refl _, fun k _ hk => Below.heap_setCell w3 _ v' k (fun e => hk (by rw [e]))⟩
  refine ⟨⟨cs.grown gset ?_, ct.grown gset ?_, cf.grown gset ?_, co.set_ 0 v', cp.grown gset ?_, ms.grown gset ?_, mb.grown gset ?_, ho.kept gset (Or.inr vg), h.sb_bb, h.b1, h.b2⟩, fun w0 hb hx => ?_⟩
  · intro e; exact cs.ne_ co (by decide) (by simpa using e)
  · intro e; exact ct.ne_ co (by decide) (by simpa using e)
  · intro e; exact cf.ne_ co (by decide) (by simpa using e)
  · intro e; exact cp.ne_ co (by decide) (by simpa using e)
  · intro e; exact ms.ne_blk co (by simpa using e)
  · intro e; exact mb.ne_blk co (by simpa using e)
  · exact ((hx.alloc ob).grown hg (fun k e => by have := (h.own.blk k e).1; omega)).grown gset (fun k e => by cases e; have := h.b2; omega)

/-- What put does. -/
def RetPut (base gs gt gf go gp sb bb : Nat) (A : Option Addr) (n c kb : Nat) (f : Int → Option Int) (w0 : World) (st : List Int × List Int) (e : Ending) (w' : World) : Prop :=
  ∃ v', e = .returned (.tuple #[]) ∧ GMem base gs gt gf go gp sb bb A n c kb f w' v' st.1 st.2 ∧ Ext w0 w'

theorem cntV_mem {s : List Int} {x : Int} : (0 < cntV s x) ↔ x ∈ s := by
  have := hasV_cnt s x
  rw [← hasV_mem, ← this, decide_eq_true_eq]

set_option maxRecDepth 100000 in
set_option maxHeartbeats 4000000 in
theorem put_c (w0 : World) (gs gt gf go gp sb bb : Nat) (A : Option Addr) (n c kb : Nat) (f : Int → Option Int) (L : List (List Int)) (hrows : RowsSl w0 A n L) (hsm : n ≤ 1000000000) (hfb : ∀ z k, f z = some k → 0 ≤ k) (hfm : f (-9223372036854775808) = none) : ∀ (fu i : Nat) (w : World) (v : Value) (s o : List Int),
    GMem w0.heap.size gs gt gf go gp sb bb A n c kb f w v s o → Ext w0 w → DeepV L f fu i → SOk L (s, o) →
    Calls Try.prog 92 #[.int .i64 i, .pointer (some ⟨gs, 0, none⟩), .pointer (some ⟨gt, 0, none⟩), .pointer (some ⟨gf, 0, none⟩), .pointer (some ⟨go, 0, none⟩)] w
      (RetPut w0.heap.size gs gt gf go gp sb bb A n c kb f w0 (putV L f fu i (s, o)))
  | 0, _, _, _, _, _, _, _, hd, _ => hd.elim
  | fu + 1, i, w, v, s, o, hG, hX, hD, hS => by
    have ih := put_c w0 gs gt gf go gp sb bb A n c kb f L hrows hsm hfb hfm fu
    have hi0 := hD.1
    have hi1 := hD.2.1
    have HLn := Lib.hid hrows.1
    have hin : i < n := by have := HLn.out; omega
    have hslen := hS.len
    have hs1 : s.length ≤ n := by have := HLn.out; simpa [this] using hslen
    have hcs := hG.cs.cell 0
    have hct := hG.ct.cell 0
    have hcp0 := hG.cp.cell 0
    have hcb := cntV_bd s (i : Int)
    obtain ⟨hcb1, hcb2⟩ := hcb
    have HIH := Lib.hid ih
    have HFB := Lib.hid hfb
    have HFM := Lib.hid hfm
    have HG := Lib.hid hG
    have HX := Lib.hid hX
    have HD := Lib.hid hD
    have HS := Lib.hid hS
    clear ih hfb hfm hG hX hD hS hslen hi0 hi1
    by_cases hmem : 0 < cntV s (i : Int)
    · have HR : Hid (putV L f (fu + 1) (i : Int) (s, o) = (s, o)) := putV_seen L f fu _ _ (cntV_mem.1 hmem)
      go_enter Try.func92, Try.ntmps92
      go_wp2_with (at_lookup; refine wpList_look _ rfl _ _ rfl _ _ _ rfl HG.out.ms _ rfl (by omega) ?_)
      refine bodyPost_ret (results_none rfl _ _ _) rfl ?_
      exact ⟨v, rfl, by rw [HR.out]; exact HG.out, HX.out⟩
    · have hni : (i : Int) ∉ s := fun e => hmem (cntV_mem.2 e)
      have HPS := Lib.hid (putV_succ L f fu (i : Int) (s, o) hni)
      have hpu := HS.out.push (i := (i : Int)) hni HD.out.1 HD.out.2.1
      have HPU := Lib.hid hpu
      have hc0 : cntV s (i : Int) ≤ 1000000000 := by omega
      clear hni hpu
      obtain ⟨ad, row, A1, n1, c1, rfl, hy, hcx0, hrow0⟩ := hrows.at_ hin
      have HROW := Lib.hid hrow0
      have hn1 := hrow0.len
      have hgd : L.getD ((i : Int).toNat) [] = row := getD_of hy.out
      have HGD := Lib.hid hgd
      clear hrow0 hgd
      go_enter Try.func92, Try.ntmps92
      go_wp2_with (first
        | (at_lookup; refine wpList_look _ rfl _ _ rfl _ _ _ rfl HG.out.ms _ rfl (by omega) ?_)
        | (at_mapUpdate; refine wpList_setm _ rfl _ _ _ rfl _ _ _ rfl HG.out.ms (by omega) _ _ rfl rfl (by omega) (by omega) ?_; intro w2 hc2 hg2; rw [cntV_snoc] at hc2; have HG2 := Lib.hid (HG.out.seen (s' := s ++ [(i : Int)]) hg2 (by rw [List.length_append]; exact hc2)); have HX2 := Lib.hid (HX.out.grown hg2 (fun j hj => by cases hj; exact HG.out.b1)); have k1 := HG2.out.ct.cell 0; have k2 := HG2.out.cp.cell 0; have k5 := HX2.out.cell hcx0; clear hc2 hg2))
      clear k1 k2 k5
      go_loopw [26] (fun q wr => ∃ (j : Nat) (st : List Int × List Int) (v' : Value), j ≤ n1 ∧ q = .int .i64 j ∧ st = (row.take j).foldl (litV L f fu) (s ++ [(i : Int)], o) ∧ GMem w0.heap.size gs gt gf go gp sb bb (some ad) n c kb f wr v' st.1 st.2 ∧ SOk L st ∧ Ext w0 wr) (fun q _ => n1 - (intOf q).toNat)
      case atStart => exact ⟨0, _, v, Nat.zero_le _, rfl, rfl, HG2.out, HPU.out.1, HX2.out⟩
      case round =>
        obtain ⟨j, st, v1, hj, rfl, hst, hg, hs, hx⟩ := hrel
        have hk1 := hg.ct.cell 0
        have hk2 := hg.cp.cell 1
        have hk3 := hg.cf.cell 0
        have hk4 := hg.co.cell 0
        have HST := Lib.hid hst
        have HGR := Lib.hid hg
        have HSR := Lib.hid hs
        have HXR := Lib.hid hx
        clear hst hg hs hx
        by_cases hlt : j < n1
        · obtain ⟨ad1, x, rfl, hx, hcx, hxa, hxb⟩ := (HROW.out.ext HXR.out).at_ hlt
          have HSN : Hid ((row.take (j + 1)).foldl (litV L f fu) (s ++ [(i : Int)], o) = litV L f fu st x) := by unfold Hid; rw [take_succ_of hx.out, List.foldl_append, ← HST.out]; rfl
          by_cases hmin : x = -9223372036854775808
          · have hne : negI x = x := by unfold negI; rw [if_pos hmin]
            have HLV : Hid (litV L f fu st x = st) := by unfold Hid litV; rw [hne, hmin, HFM.out]
            have h64 : wrap64 (-x) = x := by rw [hmin]; decide +kernel
            have hfm : f x = none := by rw [hmin]; exact HFM.out
            have HFX := Lib.hid hfm
            have hmin' : ¬ (-9223372036854775808 < x) := by omega
            have HB := Lib.hid (And.intro hxa hxb)
            have H64 := Lib.hid h64
            clear hne hmin hfm h64
            go_wp2_with (at_lookup; refine wpList_lookO _ rfl _ _ rfl _ _ _ rfl HGR.out.mb (wrap64 (-x)) rfl (by rw [H64.out]; exact HB.out) ?_; rw [H64.out, HFX.out]; simp only [Option.getD_none, Option.isSome_none])
            go_roundw
            case rel => exact ⟨j + 1, st, v1, by omega, by go_num, by rw [HSN.out, HLV.out], HGR.out, HSR.out, HXR.out⟩
            case measure => simp [intOf]; omega
          · have hne : negI x = -x := by unfold negI; rw [if_neg hmin]
            have HNE := Lib.hid hne
            clear hne
            cases hfx : f (-x) with
            | none =>
              have HFX := Lib.hid hfx
              have HLV : Hid (litV L f fu st x = st) := by unfold Hid litV; rw [HNE.out, hfx]
              clear hfx
              go_wp2_with (at_lookup; refine wpList_lookO _ rfl _ _ rfl _ _ _ rfl HGR.out.mb _ rfl (by omega) ?_; rw [HFX.out]; simp only [Option.getD_none, Option.isSome_none])
              go_roundw
              case rel => exact ⟨j + 1, st, v1, by omega, by go_num, by rw [HSN.out, HLV.out], HGR.out, HSR.out, HXR.out⟩
              case measure => simp [intOf]; omega
            | some k =>
              have HFX := Lib.hid hfx
              have HLV : Hid (litV L f fu st x = putV L f fu k st) := by unfold Hid litV; rw [HNE.out, hfx]
              obtain ⟨kn, rfl⟩ := Int.eq_ofNat_of_zero_le (HFB.out _ _ hfx)
              have hdk := HD.out.2.2 x (by rw [HGD.out]; exact List.mem_of_getElem? hx.out) kn (by rw [HNE.out]; exact hfx)
              have HDK := Lib.hid hdk
              have HOK := Lib.hid (putV_ok L f fu kn st hdk HSR.out)
              clear hfx hdk
              go_wp2_with (at_lookup; refine wpList_lookO _ rfl _ _ rfl _ _ _ rfl HGR.out.mb _ rfl (by omega) ?_; rw [HFX.out]; simp only [Option.getD_some, Option.isSome_some])
              refine (HIH.out kn _ v1 st.1 st.2 HGR.out HXR.out HDK.out HSR.out).mono ?_
              rintro e w3 ⟨v3, rfl, hg3, hx3⟩
              have HG3 := Lib.hid hg3
              have HX3 := Lib.hid hx3
              clear hg3 hx3
              go_wp2_with fail
              go_roundw
              case rel => exact ⟨j + 1, putV L f fu kn st, v3, by omega, by go_num, by rw [HSN.out, HLV.out], HG3.out, HOK.out.1, HX3.out⟩
              case measure => simp [intOf]; omega
        · have hfin := HST.out
          rw [take_len_of HROW.out.1 hlt] at hfin
          have HR : Hid (putV L f (fu + 1) (i : Int) (s, o) = (st.1, st.2 ++ [(i : Int)])) := by unfold Hid; rw [HPS.out, HGD.out, ← hfin]
          have hb2 : st.2.length + 1 ≤ 10000000000000 := by have := HSR.out.2.2.1; have := HSR.out.len; have := HLn.out; omega
          have HB2 := Lib.hid hb2
          have hbase : w0.heap.size ≤ wr.heap.size := HXR.out.size_le
          clear hfin hb2
          go_wp2_with (at_builtin; refine append1 _ rfl (.tmp 45) (.tmp 47) rfl w0.heap.size _ _ rfl (HGR.out.own.alloc _) _ _ _ rfl (cell_one _ _ _) (by omega) HB2.out (by simp; omega) ?_; intro v5 w5 ho5 hg5 hloc; clear hloc; obtain ⟨A5, n5, c5, rfl⟩ := ho5.form; have hp5 := (HGR.out.co.alloc (Obj.cells #[.int .i64 (i : Int)] 3)).grown hg5 (Ne.symm ((HGR.out.own.alloc (Obj.cells #[.int .i64 (i : Int)] 3)).ne_blk (HGR.out.co.alloc (Obj.cells #[.int .i64 (i : Int)] 3)) (by decide))); have s5 := hp5.cell 0; have f5 := hp5.frozen 0; clear hp5; have HO5 := Lib.hid ho5; have HG5 := Lib.hid hg5; clear ho5 hg5)
          go_end0
          obtain ⟨z1, z2⟩ := HGR.out.put HG5.out HO5.out
          exact ⟨_, rfl, by rw [HR.out]; exact z1, z2 w0 (Nat.le_refl _) HXR.out⟩
end Go.Proofs.Ytdhohoabcokdjaa

/- Layer 8 (rup): gather and Hints. -/
namespace Go.Proofs.Ytdhohoabcokdjaa
open Go.RowKit Go.Maps

theorem all_c (go : Nat) (v : Value) (w : World) (h : w.cell? ⟨go, 0, none⟩ = some v) :
    Calls Try.prog 93 #[.pointer (some ⟨go, 0, none⟩)] w fun e w' => e = .returned v ∧ w = w' := by
  go_enter Try.func93, Try.ntmps93
  go_wp2
  go_ret
  exact ⟨rfl, rfl⟩

theorem run_makeMap_none {P : Program} (t : TypeId) (w : World) :
    (Instr.makeMap t none).run P w = .ok (.map (some w.heap.size)) (w.alloc (.map #[] 0)) := by
  simp only [Instr.makeMap, Sem.run_bind]; rfl

theorem Blk.newg {w : World} {g : Nat} (t : TypeId) (cs : Array Value) (hg : w.heap.size = g) : Blk (w.alloc (.cells cs t)) g t cs := by subst hg; exact Blk.new w t cs
theorem Cnt.newg {w : World} {g : Nat} (hg : w.heap.size = g) : Cnt (w.alloc (.map #[] 0)) g ([] : List Int).length (cntV []) := by subst hg; rw [cntV_nil]; exact Cnt.made w

/-- What gather hands back. -/
def RetGather (base gp bb : Nat) (A : Option Addr) (n c kb : Nat) (f : Int → Option Int) (w0 : World) (e : Ending) (w' : World) : Prop :=
  ∃ gs gt gf go sb, e = .returned (.tuple #[.func (.func 92) #[] #[.pointer (some ⟨gs, 0, none⟩), .pointer (some ⟨gt, 0, none⟩), .pointer (some ⟨gf, 0, none⟩), .pointer (some ⟨go, 0, none⟩)], .func (.func 93) #[] #[.pointer (some ⟨go, 0, none⟩)]]) ∧
    GMem base gs gt gf go gp sb bb A n c kb f w' (.slice none 0 0) [] [] ∧ Ext w0 w'

set_option maxHeartbeats 2000000 in
theorem gather_c (w0 w : World) (gp bb : Nat) (A : Option Addr) (n c kb : Nat) (f : Int → Option Int) (hX : Ext w0 w) (hp : Blk w gp 87 #[.slice A n c, .map (some bb)]) (hm : MapO w bb kb f) :
    Calls Try.prog 59 #[.pointer (some ⟨gp, 0, none⟩)] w (RetGather w0.heap.size gp bb A n c kb f w0) := by
  have hmm := fun (W : World) => run_makeMap_none (P := Try.prog) 85 W
  have hsz := hX.size_le
  have hml := hm.lt
  have HX := Lib.hid hX
  have HP := Lib.hid hp
  have HM := Lib.hid hm
  clear hX hp hm
  go_enter Try.func59, Try.ntmps59
  go_wp2
  go_ret2
  have hms : Cnt _ (w.heap.size + 1 + 1) ([] : List Int).length (cntV []) := Cnt.newg (w := (w.alloc (Obj.cells #[.pointer (some ⟨gp, 0, none⟩)] 84)).alloc (Obj.cells #[.slice none 0 0] 22)) (by simp)
  refine ⟨w.heap.size + 1 + 1 + 1, w.heap.size, w.heap.size + 1 + 1 + 1 + 1, w.heap.size + 1, w.heap.size + 1 + 1, rfl, ⟨?_, ?_, ?_, ?_, ?_, ?_, ?_, OwnI.nil _ _, by omega, by omega, by omega⟩, ?_⟩
  · exact (Blk.newg _ _ (by simp)).alloc _
  · exact ((((Blk.newg _ _ rfl).alloc _).alloc _).alloc _).alloc _
  · exact Blk.newg _ _ (by simp)
  · exact (((Blk.newg _ _ (by simp)).alloc _).alloc _).alloc _
  · exact ((((HP.out.alloc _).alloc _).alloc _).alloc _).alloc _
  · exact (hms.ext ((Ext.refl _).alloc _)).ext ((Ext.refl _).alloc _)
  · exact HM.out.ext (by (repeat (first | with_reducible exact Ext.refl _ | with_reducible apply Ext.alloc | with_reducible apply Ext.drew | with_reducible apply Ext.drewN | (apply Ext.trans'; assumption))))
  · exact HX.out.trans (by (repeat (first | with_reducible exact Ext.refl _ | with_reducible apply Ext.alloc | with_reducible apply Ext.drew | with_reducible apply Ext.drewN | (apply Ext.trans'; assumption))))

/-- What Hints comes to. -/
def HintsOk (L : List (List Int)) (c l : List Int) (b : Bool) : Prop :=
  b = (decide (startE c = 0) && refutesV L c) ∧ (b = false → l = []) ∧ (b = true → (∀ i ∈ l, 0 ≤ i ∧ i < (L.length : Int)) ∧ l.length ≤ L.length ∧ (chainV (startV c) (rowsN L l) 0).2 = ((l.length : Int), 0))
def RetHints (L : List (List Int)) (cl : List Int) (w : World) (e : Ending) (w' : World) : Prop :=
  ∃ A n c l b, e = .returned (.tuple #[.slice A n c, .bool b]) ∧ IntSl w' A n l ∧ HintsOk L cl l b ∧ Ext w w'

theorem HintsOk.no {L : List (List Int)} {c : List Int} (h : (decide (startE c = 0) && refutesV L c) = false) : HintsOk L c [] false := ⟨h.symm, fun _ => rfl, fun h => by cases h⟩

set_option maxRecDepth 100000 in
set_option maxHeartbeats 4000000 in
theorem hints_c (A : Option Addr) (n c : Nat) (L : List (List Int)) (A' : Option Addr) (n' c' : Nat) (cl : List Int) (w : World) (h : RowsSl w A n L) (h' : IntSl w A' n' cl) (hsm : n' ≤ 100000000) (hsn : n ≤ 100000000) (hM : mostN L ≤ 1000000000) :
    Calls Try.prog 24 #[.slice A n c, .slice A' n' c'] w (RetHints L cl w) := by
  have hmm := fun (W : World) => run_makeMap_none (P := Try.prog) 85 W
  have hlen := startV_len cl
  rw [h'.1] at hlen
  have HB := Lib.hid (startV_bd cl)
  have HLn := Lib.hid h.1
  cases he : decide (startE cl ≠ 0)
  · have he' : startE cl = 0 := by simpa using he
    have HE := Lib.hid he'
    have HGD := Lib.hid (start_good he').1
    clear he he'
    go_enter Try.func24, Try.ntmps24
    go_wp2_with fail
    refine (rupStart_c _ _ _ cl _ h' (by omega)).mono ?_
    rintro e w1 ⟨v, rfl, hv, hx1⟩
    rw [HE.out]
    obtain ⟨Av, nv, cv, rfl⟩ := hv.form
    have HV := Lib.hid hv
    have HX1 := Lib.hid hx1
    have hs1 := hx1.size_le
    clear hv hx1
    go_wp2_with fail
    have hgb := Blk.newg (w := w1.alloc (.map #[] 0)) 87 #[.slice A n c, .map (some w1.heap.size)] (by simp : (w1.alloc (.map #[] 0)).heap.size = w1.heap.size + 1)
    have hmo := (MapO.made w1).ext ((Ext.refl _).alloc (Obj.cells #[.slice A n c, .map (some w1.heap.size)] 87))
    refine (propg_c w _ (w1.heap.size + 1) w1.heap.size A n c L _ (startV cl) h ((HX1.out.alloc _).alloc _) hgb hmo (by omega) ((HV.out.alloc _).alloc _) HGD.out HB.out (by omega) hM).mono ?_
    rintro e w2 ⟨t, f, k, rfl, hF, hend, hmo2, hgb2, hx2⟩
    have HEND := Lib.hid hend
    have HREF := Lib.hid (hints_ref HE.out hF hend)
    have HF := Lib.hid hF
    have HMO2 := Lib.hid hmo2
    have HGB2 := Lib.hid hgb2
    have HX2 := Lib.hid hx2
    clear hF hend hmo2 hgb2 hx2 hgb hmo
    by_cases hk : k < 0
    · have HR : Hid ((decide (startE cl = 0) && refutesV L cl) = false) := by
        unfold Hid; rw [← HREF.out, decide_eq_false (show ¬ 0 ≤ k by omega), Bool.and_false]
      go_wp2_with fail
      go_ret2
      exact ⟨none, 0, 0, [], false, rfl, IntSl.nil _, HintsOk.no HR.out, HX2.out⟩
    · obtain ⟨i, ci, rfl, hi, hfail⟩ := HEND.out.2 (by omega)
      have HI := Lib.hid hi
      have HFAIL := Lib.hid hfail
      clear hi hfail
      go_wp2_with fail
      refine (gather_c w _ (w1.heap.size + 1) w1.heap.size A n c t.length f HX2.out HGB2.out HMO2.out).mono ?_
      rintro e w3 ⟨gs, gt, gf, go, sb, rfl, hg3, hx3⟩
      have HG3 := Lib.hid hg3
      have HX3 := Lib.hid hx3
      clear hg3 hx3
      go_wp2_with fail
      have hdeep := HF.out.deep_last HI.out
      have hfm : f (-9223372036854775808) = none := HF.out.out _ (fun e => HF.out.good.1 _ (List.mem_append_right _ e) (by decide))
      have hfb : ∀ z k, f z = some k → 0 ≤ k := fun z k e => by obtain ⟨_, i, _, _, e2, _⟩ := HF.out.at e; omega
      refine (put_c w gs gt gf go (w1.heap.size + 1) sb w1.heap.size A n c t.length f L h (by omega) hfb hfm (t.length + 1) i _ _ [] [] HG3.out HX3.out hdeep (SOk.nil L)).mono ?_
      rintro e w4 ⟨v4, rfl, hg4, hx4⟩
      have hok := (putV_ok L f (t.length + 1) i ([], []) hdeep (SOk.nil L)).1
      have hshow := hints_show HF.out HI.out HFAIL.out
      have hk4 := hg4.co.cell 0
      have hlen4 : (putV L f (t.length + 1) i ([], [])).2.length ≤ L.length := Nat.le_trans hok.2.2.1 hok.len
      have hbd4 : ∀ x ∈ (putV L f (t.length + 1) i ([], [])).2, 0 ≤ x ∧ x < (L.length : Int) := fun x hx => hok.2.1 x (hok.2.2.2 x hx)
      obtain ⟨A4, n4, c4, rfl, hs4⟩ := hg4.own.sl (by have := HLn.out; omega) (fun x hx => by have := hbd4 x hx; have := HLn.out; omega)
      have HS4 := Lib.hid hs4
      have HX4 := Lib.hid hx4
      have HOK : Hid (HintsOk L cl (putV L f (t.length + 1) i ([], [])).2 true) := by
        unfold Hid
        refine ⟨?_, fun h => (by cases h), fun _ => ⟨hbd4, hlen4, hshow⟩⟩
        rw [← HREF.out, decide_eq_true HE.out, decide_eq_true (show (0 : Int) ≤ i by omega)]; rfl
      clear hg4 hx4 hs4 hok hshow hlen4 hbd4 hdeep hfm hfb
      go_wp2_with fail
      refine (all_c go _ w4 hk4).mono ?_
      rintro e w' ⟨rfl, rfl⟩
      go_wp2_with fail
      go_ret2
      exact ⟨_, _, _, _, true, rfl, HS4.out, HOK.out, HX4.out⟩
  · have he' : startE cl ≠ 0 := by simpa using he
    have HR : Hid ((decide (startE cl = 0) && refutesV L cl) = false) := by unfold Hid; rw [decide_eq_false he']; rfl
    have hb : (startE cl != 0) = true := by simpa using he'
    clear he he'
    go_enter Try.func24, Try.ntmps24
    go_wp2_with fail
    refine (rupStart_c _ _ _ cl _ h' (by omega)).mono ?_
    rintro e w1 ⟨v, rfl, _, hx1⟩
    have HX1 := Lib.hid hx1
    clear hx1
    go_wp2_with fail
    go_ret2
    exact ⟨none, 0, 0, [], false, rfl, IntSl.nil _, HintsOk.no HR.out, HX1.out⟩
end Go.Proofs.Ytdhohoabcokdjaa
