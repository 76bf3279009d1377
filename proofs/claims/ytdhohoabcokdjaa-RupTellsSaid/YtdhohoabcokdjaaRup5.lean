/- Layer 8 (rup): what puts a clause behind those by which its opposites followed. -/
import Derived.Test.YtdhohoabcokdjaaRup4
import Derived.Test.YtdhohoabcokdjaaHints3P
set_option maxRecDepth 100000
namespace Go.Proofs.Ytdhohoabcokdjaa
open Go.RowKit Go.Maps

theorem enters_put : Enters 92 := by
  intro args w
  go_simp

/-- The blocks of gather: what was seen (gs, sb), the trace (gt, gp, bb), the function (gf), what comes out (go). -/
structure GMem (base gs gt gf go gp sb bb : Nat) (A : Option Addr) (n c kb : Nat) (f : Int → Option Int) (w : World) (v : Value) (s o : List Int) : Prop where
  cs : Blk w gs 85 #[.map (some sb)]
  ct : Blk w gt 84 #[.pointer (some ⟨gp, 0, none⟩)]
  cf : Blk w gf 89 #[.func (.func 92) #[] #[.pointer (some ⟨gs, 0, none⟩), .pointer (some ⟨gt, 0, none⟩), .pointer (some ⟨gf, 0, none⟩), .pointer (some ⟨go, 0, none⟩)]]
  co : Blk w go 22 #[v]
  cp : Blk w gp 87 #[.slice A n c, .map (some bb)]
  ms : Cnt w sb s.length (cntV s)
  mb : MapO w bb kb f
  own : OwnI w base v o
  sb_bb : sb ≠ bb
  b1 : base ≤ sb
  b2 : base ≤ go

theorem Cnt.ne_blk {w : World} {b k g : Nat} {f : Int → Int} {t : TypeId} {cs : Array Value} (h : Cnt w b k f) (hg : Blk w g t cs) : b ≠ g := by
  obtain ⟨D, ⟨es, cl, hb, _⟩, _⟩ := h
  rintro rfl
  unfold Blk at hg
  rw [hg] at hb
  cases hb
theorem Cnt.ne_own {w : World} {b k base : Nat} {f : Int → Int} {v : Value} {xs : List Int} (h : Cnt w b k f) (ho : OwnI w base v xs) : some b ≠ v.ownBlock := by
  obtain ⟨D, ⟨es, cl, hb, _⟩, _⟩ := h
  rcases ho.2 with ⟨rfl, _⟩ | ⟨g, cap, cur, rfl, _, hg, _⟩
  · simp [Value.ownBlock]
  · intro e
    have e' : b = g := by simpa [Value.ownBlock] using e
    subst e'
    rw [hg] at hb
    cases hb
theorem GMem.ext {base gs gt gf go gp sb bb : Nat} {A : Option Addr} {n c kb : Nat} {f : Int → Option Int} {w w' : World} {v : Value} {s o : List Int} (h : GMem base gs gt gf go gp sb bb A n c kb f w v s o) (hx : Ext w w') : GMem base gs gt gf go gp sb bb A n c kb f w' v s o :=
  ⟨h.cs.ext hx, h.ct.ext hx, h.cf.ext hx, h.co.ext hx, h.cp.ext hx, h.ms.ext hx, h.mb.ext hx, h.own.ext hx, h.sb_bb, h.b1, h.b2⟩
/-- The map of what was seen was written. -/
theorem GMem.seen {base gs gt gf go gp sb bb : Nat} {A : Option Addr} {n c kb : Nat} {f : Int → Option Int} {w w' : World} {v : Value} {s s' o : List Int} (h : GMem base gs gt gf go gp sb bb A n c kb f w v s o) (hg : w.grownBy w' (some sb)) (hc : Cnt w' sb s'.length (cntV s')) : GMem base gs gt gf go gp sb bb A n c kb f w' v s' o :=
  ⟨h.cs.grown hg (fun e => h.ms.ne_blk h.cs (by simpa using e.symm)), h.ct.grown hg (fun e => h.ms.ne_blk h.ct (by simpa using e.symm)), h.cf.grown hg (fun e => h.ms.ne_blk h.cf (by simpa using e.symm)), h.co.grown hg (fun e => h.ms.ne_blk h.co (by simpa using e.symm)),
    h.cp.grown hg (fun e => h.ms.ne_blk h.cp (by simpa using e.symm)), hc, h.mb.grown hg (fun e => h.sb_bb (by simpa using e.symm)), h.own.kept hg (Or.inr (fun e => h.ms.ne_own h.own e.symm)), h.sb_bb, h.b1, h.b2⟩
/-- A number was put behind all, and laid down. -/
theorem GMem.put {base gs gt gf go gp sb bb : Nat} {A : Option Addr} {n c kb : Nat} {f : Int → Option Int} {w w3 : World} {v v' : Value} {s o o' : List Int} {ob : Obj} (h : GMem base gs gt gf go gp sb bb A n c kb f w v s o) (hg : (w.alloc ob).grownBy w3 v.ownBlock) (ho : OwnI w3 base v' o') :
    GMem base gs gt gf go gp sb bb A n c kb f (w3.setCell ⟨go, 0, none⟩ v') v' s o' ∧ (∀ w0, w0.heap.size ≤ base → Ext w0 w → Ext w0 (w3.setCell ⟨go, 0, none⟩ v')) := by
  have h1 := h.ext ((Ext.refl w).alloc ob)
  have cs := h1.cs.grown hg (Ne.symm (h1.own.ne_blk h1.cs (by decide)))
  have ct := h1.ct.grown hg (Ne.symm (h1.own.ne_blk h1.ct (by decide)))
  have cf := h1.cf.grown hg (Ne.symm (h1.own.ne_blk h1.cf (by decide)))
  have co := h1.co.grown hg (Ne.symm (h1.own.ne_blk h1.co (by decide)))
  have cp := h1.cp.grown hg (Ne.symm (h1.own.ne_blk h1.cp (by decide)))
  have ms := h1.ms.grown hg (h1.ms.ne_own h1.own)
  have mb := h1.mb.grown hg (h1.mb.ne_own h1.own)
  have vg : v'.ownBlock ≠ some go := ho.ne_blk co (by decide)
  have gset : w3.grownBy (w3.setCell ⟨go, 0, none⟩ v') (some go) := ⟨rfl, rfl, rfl, by rw [World.size_setCell]; exact Nat.le_refl _, fun k _ hk => Below.heap_setCell w3 _ v' k (fun e => hk (by rw [e]))⟩
  refine ⟨⟨cs.grown gset ?_, ct.grown gset ?_, cf.grown gset ?_, co.set_ 0 v', cp.grown gset ?_, ms.grown gset ?_, mb.grown gset ?_, ho.kept gset (Or.inr vg), h.sb_bb, h.b1, h.b2⟩, fun w0 hb hx => ?_⟩
  · intro e; exact cs.ne_ co (by decide) (by simpa using e)
  · intro e; exact ct.ne_ co (by decide) (by simpa using e)
  · intro e; exact cf.ne_ co (by decide) (by simpa using e)
  · intro e; exact cp.ne_ co (by decide) (by simpa using e)
  · intro e; exact ms.ne_blk co (by simpa using e)
  · intro e; exact mb.ne_blk co (by simpa using e)
  · exact ((hx.alloc ob).grown hg (fun k e => by have := (h.own.blk k e).1; omega)).grown gset (fun k e => by cases e; have := h.b2; omega)

/-- What put does. -/
def RetPut (base gs gt gf go gp sb bb : Nat) (A : Option Addr) (n c kb : Nat) (f : Int → Option Int) (w0 : World) (st : List Int × List Int) (e : Ending) (w' : World) : Prop :=
  ∃ v', e = .returned (.tuple #[]) ∧ GMem base gs gt gf go gp sb bb A n c kb f w' v' st.1 st.2 ∧ Ext w0 w'

theorem cntV_mem {s : List Int} {x : Int} : (0 < cntV s x) ↔ x ∈ s := by
  have := hasV_cnt s x
  rw [← hasV_mem, ← this, decide_eq_true_eq]

set_option maxRecDepth 100000 in
set_option maxHeartbeats 4000000 in
theorem put_c (w0 : World) (gs gt gf go gp sb bb : Nat) (A : Option Addr) (n c kb : Nat) (f : Int → Option Int) (L : List (List Int)) (hrows : RowsSl w0 A n L) (hsm : n ≤ 1000000000) (hfb : ∀ z k, f z = some k → 0 ≤ k) (hfm : f (-9223372036854775808) = none) : ∀ (fu i : Nat) (w : World) (v : Value) (s o : List Int),
    GMem w0.heap.size gs gt gf go gp sb bb A n c kb f w v s o → Ext w0 w → DeepV L f fu i → SOk L (s, o) →
    Calls Try.prog 92 #[.int .i64 i, .pointer (some ⟨gs, 0, none⟩), .pointer (some ⟨gt, 0, none⟩), .pointer (some ⟨gf, 0, none⟩), .pointer (some ⟨go, 0, none⟩)] w
      (RetPut w0.heap.size gs gt gf go gp sb bb A n c kb f w0 (putV L f fu i (s, o)))
  | 0, _, _, _, _, _, _, _, hd, _ => hd.elim
  | fu + 1, i, w, v, s, o, hG, hX, hD, hS => by
    have ih := put_c w0 gs gt gf go gp sb bb A n c kb f L hrows hsm hfb hfm fu
    have hi0 := hD.1
    have hi1 := hD.2.1
    have HLn := Lib.hid hrows.1
    have hin : i < n := by have := HLn.out; omega
    have hslen := hS.len
    have hs1 : s.length ≤ n := by have := HLn.out; simpa [this] using hslen
    have hcs := hG.cs.cell 0
    have hct := hG.ct.cell 0
    have hcp0 := hG.cp.cell 0
    have hcb := cntV_bd s (i : Int)
    obtain ⟨hcb1, hcb2⟩ := hcb
    have HIH := Lib.hid ih
    have HFB := Lib.hid hfb
    have HFM := Lib.hid hfm
    have HG := Lib.hid hG
    have HX := Lib.hid hX
    have HD := Lib.hid hD
    have HS := Lib.hid hS
    clear ih hfb hfm hG hX hD hS hslen hi0 hi1
    by_cases hmem : 0 < cntV s (i : Int)
    · have HR : Hid (putV L f (fu + 1) (i : Int) (s, o) = (s, o)) := putV_seen L f fu _ _ (cntV_mem.1 hmem)
      go_enter Try.func92, Try.ntmps92
      go_wp2_with (at_lookup; refine wpList_look _ rfl _ _ rfl _ _ _ rfl HG.out.ms _ rfl (by omega) ?_)
      refine bodyPost_ret (results_none rfl _ _ _) rfl ?_
      exact ⟨v, rfl, by rw [HR.out]; exact HG.out, HX.out⟩
    · have hni : (i : Int) ∉ s := fun e => hmem (cntV_mem.2 e)
      have HPS := Lib.hid (putV_succ L f fu (i : Int) (s, o) hni)
      have hpu := HS.out.push (i := (i : Int)) hni HD.out.1 HD.out.2.1
      have HPU := Lib.hid hpu
      have hc0 : cntV s (i : Int) ≤ 1000000000 := by omega
      clear hni hpu
      obtain ⟨ad, row, A1, n1, c1, rfl, hy, hcx0, hrow0⟩ := hrows.at_ hin
      have HROW := Lib.hid hrow0
      have hn1 := hrow0.len
      have hgd : L.getD ((i : Int).toNat) [] = row := getD_of hy.out
      have HGD := Lib.hid hgd
      clear hrow0 hgd
      go_enter Try.func92, Try.ntmps92
      go_wp2_with (first
        | (at_lookup; refine wpList_look _ rfl _ _ rfl _ _ _ rfl HG.out.ms _ rfl (by omega) ?_)
        | (at_mapUpdate; refine wpList_setm _ rfl _ _ _ rfl _ _ _ rfl HG.out.ms (by omega) _ _ rfl rfl (by omega) (by omega) ?_; intro w2 hc2 hg2; rw [cntV_snoc] at hc2; have HG2 := Lib.hid (HG.out.seen (s' := s ++ [(i : Int)]) hg2 (by rw [List.length_append]; exact hc2)); have HX2 := Lib.hid (HX.out.grown hg2 (fun j hj => by cases hj; exact HG.out.b1)); have k1 := HG2.out.ct.cell 0; have k2 := HG2.out.cp.cell 0; have k5 := HX2.out.cell hcx0; clear hc2 hg2))
      clear k1 k2 k5
      go_loopw [26] (fun q wr => ∃ (j : Nat) (st : List Int × List Int) (v' : Value), j ≤ n1 ∧ q = .int .i64 j ∧ st = (row.take j).foldl (litV L f fu) (s ++ [(i : Int)], o) ∧ GMem w0.heap.size gs gt gf go gp sb bb (some ad) n c kb f wr v' st.1 st.2 ∧ SOk L st ∧ Ext w0 wr) (fun q _ => n1 - (intOf q).toNat)
      case atStart => exact ⟨0, _, v, Nat.zero_le _, rfl, rfl, HG2.out, HPU.out.1, HX2.out⟩
      case round =>
        obtain ⟨j, st, v1, hj, rfl, hst, hg, hs, hx⟩ := hrel
        have hk1 := hg.ct.cell 0
        have hk2 := hg.cp.cell 1
        have hk3 := hg.cf.cell 0
        have hk4 := hg.co.cell 0
        have HST := Lib.hid hst
        have HGR := Lib.hid hg
        have HSR := Lib.hid hs
        have HXR := Lib.hid hx
        clear hst hg hs hx
        by_cases hlt : j < n1
        · obtain ⟨ad1, x, rfl, hx, hcx, hxa, hxb⟩ := (HROW.out.ext HXR.out).at_ hlt
          have HSN : Hid ((row.take (j + 1)).foldl (litV L f fu) (s ++ [(i : Int)], o) = litV L f fu st x) := by unfold Hid; rw [take_succ_of hx.out, List.foldl_append, ← HST.out]; rfl
          by_cases hmin : x = -9223372036854775808
          · have hne : negI x = x := by unfold negI; rw [if_pos hmin]
            have HLV : Hid (litV L f fu st x = st) := by unfold Hid litV; rw [hne, hmin, HFM.out]
            have h64 : wrap64 (-x) = x := by rw [hmin]; decide +kernel
            have hfm : f x = none := by rw [hmin]; exact HFM.out
            have HFX := Lib.hid hfm
            have hmin' : ¬ (-9223372036854775808 < x) := by omega
            have HB := Lib.hid (And.intro hxa hxb)
            have H64 := Lib.hid h64
            clear hne hmin hfm h64
            go_wp2_with (at_lookup; refine wpList_lookO _ rfl _ _ rfl _ _ _ rfl HGR.out.mb (wrap64 (-x)) rfl (by rw [H64.out]; exact HB.out) ?_; rw [H64.out, HFX.out]; simp only [Option.getD_none, Option.isSome_none])
            go_roundw
            case rel => exact ⟨j + 1, st, v1, by omega, by go_num, by rw [HSN.out, HLV.out], HGR.out, HSR.out, HXR.out⟩
            case measure => simp [intOf]; omega
          · have hne : negI x = -x := by unfold negI; rw [if_neg hmin]
            have HNE := Lib.hid hne
            clear hne
            cases hfx : f (-x) with
            | none =>
              have HFX := Lib.hid hfx
              have HLV : Hid (litV L f fu st x = st) := by unfold Hid litV; rw [HNE.out, hfx]
              clear hfx
              go_wp2_with (at_lookup; refine wpList_lookO _ rfl _ _ rfl _ _ _ rfl HGR.out.mb _ rfl (by omega) ?_; rw [HFX.out]; simp only [Option.getD_none, Option.isSome_none])
              go_roundw
              case rel => exact ⟨j + 1, st, v1, by omega, by go_num, by rw [HSN.out, HLV.out], HGR.out, HSR.out, HXR.out⟩
              case measure => simp [intOf]; omega
            | some k =>
              have HFX := Lib.hid hfx
              have HLV : Hid (litV L f fu st x = putV L f fu k st) := by unfold Hid litV; rw [HNE.out, hfx]
              obtain ⟨kn, rfl⟩ := Int.eq_ofNat_of_zero_le (HFB.out _ _ hfx)
              have hdk := HD.out.2.2 x (by rw [HGD.out]; exact List.mem_of_getElem? hx.out) kn (by rw [HNE.out]; exact hfx)
              have HDK := Lib.hid hdk
              have HOK := Lib.hid (putV_ok L f fu kn st hdk HSR.out)
              clear hfx hdk
              go_wp2_with (at_lookup; refine wpList_lookO _ rfl _ _ rfl _ _ _ rfl HGR.out.mb _ rfl (by omega) ?_; rw [HFX.out]; simp only [Option.getD_some, Option.isSome_some])
              refine (HIH.out kn _ v1 st.1 st.2 HGR.out HXR.out HDK.out HSR.out).mono ?_
              rintro e w3 ⟨v3, rfl, hg3, hx3⟩
              have HG3 := Lib.hid hg3
              have HX3 := Lib.hid hx3
              clear hg3 hx3
              go_wp2_with fail
              go_roundw
              case rel => exact ⟨j + 1, putV L f fu kn st, v3, by omega, by go_num, by rw [HSN.out, HLV.out], HG3.out, HOK.out.1, HX3.out⟩
              case measure => simp [intOf]; omega
        · have hfin := HST.out
          rw [take_len_of HROW.out.1 hlt] at hfin
          have HR : Hid (putV L f (fu + 1) (i : Int) (s, o) = (st.1, st.2 ++ [(i : Int)])) := by unfold Hid; rw [HPS.out, HGD.out, ← hfin]
          have hb2 : st.2.length + 1 ≤ 10000000000000 := by have := HSR.out.2.2.1; have := HSR.out.len; have := HLn.out; omega
          have HB2 := Lib.hid hb2
          have hbase : w0.heap.size ≤ wr.heap.size := HXR.out.size_le
          clear hfin hb2
          go_wp2_with (at_builtin; refine append1 _ rfl (.tmp 45) (.tmp 47) rfl w0.heap.size _ _ rfl (HGR.out.own.alloc _) _ _ _ rfl (cell_one _ _ _) (by omega) HB2.out (by simp; omega) ?_; intro v5 w5 ho5 hg5 hloc; clear hloc; obtain ⟨A5, n5, c5, rfl⟩ := ho5.form; have hp5 := (HGR.out.co.alloc (Obj.cells #[.int .i64 (i : Int)] 3)).grown hg5 (Ne.symm ((HGR.out.own.alloc (Obj.cells #[.int .i64 (i : Int)] 3)).ne_blk (HGR.out.co.alloc (Obj.cells #[.int .i64 (i : Int)] 3)) (by decide))); have s5 := hp5.cell 0; have f5 := hp5.frozen 0; clear hp5; have HO5 := Lib.hid ho5; have HG5 := Lib.hid hg5; clear ho5 hg5)
          go_end0
          obtain ⟨z1, z2⟩ := HGR.out.put HG5.out HO5.out
          exact ⟨_, rfl, by rw [HR.out]; exact z1, z2 w0 (Nat.le_refl _) HXR.out⟩
end Go.Proofs.Ytdhohoabcokdjaa
