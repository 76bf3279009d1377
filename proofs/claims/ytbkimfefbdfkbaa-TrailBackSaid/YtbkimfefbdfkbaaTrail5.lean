/- Layer 13 (trail): the last literal is taken off. -/
import Derived.Test.YtbkimfefbdfkbaaTrail4
set_option maxRecDepth 100000
namespace Go.Proofs.Ytbkimfefbdfkbaa
open Go.RowKit

theorem OwnI.full {w : World} {base : Nat} {v : Value} {xs : List Int} (h : OwnI w base v xs) (hx : xs ≠ []) : ∃ g cap, v = .slice (some ⟨g, 0, none⟩) xs.length cap ∧ xs.length ≤ cap := by
  rcases h.2 with ⟨_, h0⟩ | ⟨g, cap, cur, rfl, _, _, hc, _⟩
  · exact absurd (List.eq_nil_of_length_eq_zero h0) hx
  · exact ⟨g, cap, rfl, hc⟩
theorem OwnI.cut {w : World} {base g n cap k : Nat} {xs : List Int} (h : OwnI w base (.slice (some ⟨g, 0, none⟩) n cap) xs) (hk : k ≤ xs.length) : OwnI w base (.slice (some ⟨g, 0, none⟩) k cap) (xs.take k) := by
  rcases h.2 with ⟨e, _⟩ | ⟨g', cap', cur, e, hb, hgg, hc, hm, hs, ht⟩
  · cases e
  · injection e with e1 e2 e3
    injection e1 with e1
    injection e1 with e1
    subst e1 e2 e3
    have hl : (xs.take k).length = k := by rw [List.length_take]; omega
    refine ⟨by simp, Or.inr ⟨g, cap, cur, by rw [hl], hb, hgg, by omega, hm, hs, ?_⟩⟩
    rw [hl, List.map_take, ← ht, List.take_take]
    congr 1
    omega
theorem MarksOk.pop {cs cur : Array Value} {vars j : Nat} {rows : List TRow} {r : TRow} (h : MarksOk cs vars (rows ++ [r])) (hs : cur.size = cs.size) (hj : varV r.lit = j) (hn : ∀ x ∈ rows, varV x.lit ≠ varV r.lit)
    (hget : ∀ i : Nat, cur[i]? = if j * 4 ≤ i ∧ i < j * 4 + (#[Value.int .i64 0, .int .i64 0, .int .i64 0, .int .i64 0]).size then (#[Value.int .i64 0, .int .i64 0, .int .i64 0, .int .i64 0])[i - j * 4]? else cs[i]?) :
    MarksOk cur vars rows := by
  refine ⟨hs.trans h.1, fun v k hv hk => ?_⟩
  rw [hget]
  by_cases e : v = j
  · subst e
    rw [if_pos (by simp; omega), show v * 4 + k - v * 4 = k by omega, markF_none (fun x hx => by rw [← hj]; exact hn x hx)]
    match k, hk with
    | 0, _ => rfl
    | 1, _ => rfl
    | 2, _ => rfl
    | 3, _ => rfl
  · rw [if_neg (by simp; omega)]
    have := h.2 v k hv hk
    rw [markF_snoc_other (by rw [hj]; omega)] at this
    exact this

theorem enters_pop : Enters 71 := by
  intro args w
  go_simp

/-- The last row is gone; the trail lies where it lay. -/
def TrPop (w w' : World) (base p gm : Nat) (lv bv : Value) (vars : Nat) (rows : List TRow) (bs : List Int) : Prop :=
  ∃ lv', TrMem w' base p gm lv' bv vars rows bs ∧ lv'.ownBlock = lv.ownBlock ∧ Stay (TrF p gm lv bv) w w'

theorem pop_end {W W1 w2 : World} {base p gm g cap : Nat} {bv : Value} {vars : Nat} {rows : List TRow} {r : TRow} {bs : List Int} {cur : Array Value} (hM : TrMem W base p gm (.slice (some ⟨g, 0, none⟩) (rows.length + 1) cap) bv vars (rows ++ [r]) bs)
    (hx : Ext (W.setCell ⟨p, 1, none⟩ (.slice (some ⟨g, 0, none⟩) rows.length cap)) W1) (hg2 : Blk w2 gm 90 cur) (hgr : W1.grownBy w2 (some gm)) (hok : MarksOk cur vars rows) :
    TrPop W w2 base p gm (.slice (some ⟨g, 0, none⟩) (rows.length + 1) cap) bv vars rows bs := by
  obtain ⟨cs, hgm, _⟩ := hM.mks
  have npg : p ≠ gm := hM.blk.ne_ hgm (by decide)
  have lp := hM.lits.ne_blk hM.blk (by decide)
  have lg := hM.lits.ne_blk hgm (by decide)
  have bp' := hM.beg.ne_blk hM.blk (by decide)
  have bg' := hM.beg.ne_blk hgm (by decide)
  have gset : W.grownBy (W.setCell ⟨p, 1, none⟩ (.slice (some ⟨g, 0, none⟩) rows.length cap)) (some p) := ⟨rfl, rfl, rfl, by rw [World.size_setCell]; exact Nat.le_refl _, fun k _ hk => Below.heap_setCell W _ _ k (fun e => hk (by rw [e]))⟩
  have hp2 := ((hM.blk.set_ 1 (.slice (some ⟨g, 0, none⟩) rows.length cap)).ext hx).grown hgr (by simpa using npg)
  have hl0 := hM.lits.cut (k := rows.length) (by simp [litsT])
  have hl1 := ((hl0.kept gset (Or.inr lp)).ext hx).kept hgr (Or.inr lg)
  have hb1 := ((hM.beg.kept gset (Or.inr bp')).ext hx).kept hgr (Or.inr bg')
  have e1 : (litsT (rows ++ [r])).take rows.length = litsT rows := by simp [litsT]
  rw [e1] at hl1
  have S0 : Stay (TrF p gm (.slice (some ⟨g, 0, none⟩) (rows.length + 1) cap) bv) W W := Stay.refl _ _
  have S1 := (S0.grown gset (fun k e => by cases e; exact Or.inl (Or.inl rfl))).trans_ext hx
  have S2 := S1.grown hgr (fun k e => by cases e; exact Or.inl (Or.inr (Or.inl rfl)))
  have hsm := hM.sm
  rw [List.length_append] at hsm
  exact ⟨_, ⟨hp2, ⟨cur, hg2, hok⟩, hl1, hb1, hM.ap, hM.bp, hM.bg, fun x hx => hM.ok x (List.mem_append_left _ hx), by omega, hM.smb, hM.bb, hM.vs⟩, rfl, S2⟩

set_option maxRecDepth 100000 in
set_option maxHeartbeats 2000000 in
theorem trPop_c (w : World) (base p gm q : Nat) (lv bv : Value) (vars : Nat) (rows : List TRow) (r : TRow) (bs : List Int) (h : TrMem w base p gm lv bv vars (rows ++ [r]) bs) (hn : ∀ x ∈ rows, varV x.lit ≠ varV r.lit) (hq : Blk w q 24 #[.pointer (some ⟨p, 0, none⟩)]) :
    Calls Try.prog 71 #[.pointer (some ⟨q, 0, none⟩)] w fun e w' => e = .returned (.int .i64 r.lit) ∧ TrPop w w' base p gm lv bv vars rows bs := by
  obtain ⟨g, cap, rfl, hcap⟩ := h.lits.full (by simp [litsT])
  have hll : (litsT (rows ++ [r])).length = rows.length + 1 := by simp [litsT]
  rw [hll] at hcap h ⊢
  have hsm := h.sm
  rw [List.length_append] at hsm
  have hsm2 : rows.length ≤ 1000000000 := by simp at hsm; omega
  clear hsm
  have c0 := h.blk.cell 0
  have c1 := h.blk.cell 1
  have f1 := h.blk.frozen 1
  have cq := hq.cell 0
  have hvs := h.vs
  have hc := h.ok r (by simp)
  obtain ⟨g1, g2, g3, g4, g5, g6⟩ := check_var hc
  obtain ⟨j, hj⟩ := Int.eq_ofNat_of_zero_le (show 0 ≤ varV r.lit by omega)
  have hj2 : j ≤ vars := by omega
  have b0 : (0 : Int) ≤ (j : Int) := by omega
  have b1 : (j : Int) < (vars : Int) + 1 := by omega
  have q2 : ∀ W, Calls Try.prog 56 #[.int .i64 r.lit] W fun e w' => e = .returned (.int .i64 (j : Int)) ∧ w' = W := fun W => (var_c r.lit _).mono fun e w' ⟨he, hw⟩ => ⟨by rw [he, hj], hw.symm⟩
  have hcell : w.cell? ⟨g, rows.length, none⟩ = some (.int .i64 r.lit) := by
    have h0 : w.ownsRow base 3 1 (.slice (some ⟨g, 0, none⟩) (rows.length + 1) cap) (litsT (rows ++ [r])).length ((litsT (rows ++ [r])).map (Value.int .i64)) := h.lits
    have := h0.cells (g := g) rfl rows.length (.int .i64 r.lit) (by simp [litsT])
    have e : (⟨g, 0, none⟩ : Addr).add rows.length = ⟨g, rows.length, none⟩ := by unfold Addr.add; split <;> simp_all
    rwa [e] at this
  have k0 : (0 : Int) ≤ (rows.length : Int) := by omega
  have k1 : (rows.length : Int) ≤ (cap : Int) := by omega
  have HJ := Lib.hid hj
  have HN := Lib.hid hn
  clear hj hn g1 g2 g6 hll hc
  go_enter Try.func71, Try.ntmps71
  go_wp2
  refine still_tailV 9 (by kernel_rfl) (by kernel_rfl) fun W hW => ?_
  have hX : Ext w W := by rw [hW]; (repeat (first | with_reducible exact Ext.refl _ | with_reducible apply Ext.alloc | with_reducible apply Ext.drew | with_reducible apply Ext.drewN | (apply Ext.trans'; assumption)))
  have hM := h.ext hX
  have cq1 := (hq.ext hX).cell 0
  have c1' := hM.blk.cell 1
  have f1' := hM.blk.frozen 1
  have HX := Lib.hid hX
  have HM := Lib.hid hM
  clear hW hX hM cq c0 c1 f1 hcell
  simp only [List.take_succ_cons, List.take_zero, List.drop_succ_cons, List.drop_zero]
  repeat still_step
  refine wpStill_nil ?_
  go_wp2
  refine still_tailV 8 (by kernel_rfl) (by kernel_rfl) fun W2 hW => ?_
  have hX2 : Ext (W.setCell ⟨p, 1, none⟩ (.slice (some ⟨g, 0, none⟩) rows.length cap)) W2 := by rw [hW]; (repeat (first | with_reducible exact Ext.refl _ | with_reducible apply Ext.alloc | with_reducible apply Ext.drew | with_reducible apply Ext.drewN | (apply Ext.trans'; assumption)))
  have npq : q ≠ p := hq.ne_ h.blk (by decide)
  have hp2 := (HM.out.blk.set_ 1 (.slice (some ⟨g, 0, none⟩) rows.length cap)).ext hX2
  have d0 := hp2.cell 0
  have dq := (((hq.ext HX.out).far (p := ⟨p, 1, none⟩) npq (.slice (some ⟨g, 0, none⟩) rows.length cap)).ext hX2).cell 0
  obtain ⟨cs, hgm, hok⟩ := HM.out.mks
  have npg : p ≠ gm := HM.out.blk.ne_ hgm (by decide)
  have hg := (hgm.far (p := ⟨p, 1, none⟩) (Ne.symm npg) (.slice (some ⟨g, 0, none⟩) rows.length cap)).ext hX2
  have HX2 := Lib.hid hX2
  have HOK := Lib.hid hok
  have HG := Lib.hid hg
  clear hW hX2 hp2 cq1 c1' f1' hgm hok hg
  simp only [List.take_succ_cons, List.take_zero, List.drop_succ_cons, List.drop_zero]
  repeat still_step
  still_call (q2 _)
  repeat still_step
  refine wpStill_nil ?_
  refine store_at rfl 90 (.tmp 33) (.tmp 32) rfl gm (j * 4) rfl #[.int .i64 0, .int .i64 0, .int .i64 0, .int .i64 0] rfl 90 cs HG.out (by rw [HOK.out.1]; simp; omega) (by kernel_rfl) (by simp; exact rfl) ?_
  intro w3 cur hg3 hgr hcs hget
  have HP := Lib.hid (pop_end HM.out HX2.out hg3 hgr (MarksOk.pop HOK.out hcs HJ.out HN.out hget))
  clear hg3 hgr hcs hget
  go_wp2
  go_ret
  obtain ⟨lv', m1, m2, m3⟩ := HP.out
  exact ⟨rfl, lv', m1, m2, Stay.ext_trans HX.out m3⟩
end Go.Proofs.Ytbkimfefbdfkbaa
