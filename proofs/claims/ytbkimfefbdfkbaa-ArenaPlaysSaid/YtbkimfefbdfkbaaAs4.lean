/- Layer 12 (arena): the reference's 'with', Drop. -/
import Derived.Test.YtbkimfefbdfkbaaAs3
set_option maxRecDepth 100000
namespace Go.Proofs.Ytbkimfefbdfkbaa
open Go.RowKit

theorem flat_ext {α : Type} {enc : α → List Value} {s n : Nat} (hs : ∀ r, (enc r).length = s) {us : List α} (hn : us.length = n) {xs : List Value} (hl : xs.length = n * s) (h : ∀ i k, i < n → k < s → ∀ p, us[i]? = some p → xs[i * s + k]? = (enc p)[k]?) : xs = us.flatMap enc := by
  apply List.ext_getElem?
  intro j
  by_cases hj : j < n * s
  · have hs0 : 0 < s := by rcases Nat.eq_zero_or_pos s with h0 | h0; (rw [h0] at hj; omega); exact h0
    have hi : j / s < n := Nat.div_lt_of_lt_mul (by rw [Nat.mul_comm]; exact hj)
    have hk : j % s < s := Nat.mod_lt _ hs0
    have e : j = (j / s) * s + j % s := by rw [Nat.mul_comm]; exact (Nat.div_add_mod j s).symm
    have hu : us[j / s]? = some us[j / s] := List.getElem?_eq_getElem (by omega)
    rw [e, h _ _ hi hk _ hu, flat_get hs hu hk]
  · rw [List.getElem?_eq_none (by omega), List.getElem?_eq_none (by rw [flat_len hs, hn]; omega)]
/-- A whole element is stored into a slice that the call owns. -/
theorem OwnV.storeElt {α : Type} {enc : α → List Value} {s : Nat} (hs : ∀ r, (enc r).length = s) {w w' : World} {b g n cap : Nat} {e : TypeId} {us : List α} {cur cur' : Array Value} (hn : us.length = n) (h : OwnV w b e s (.slice (some ⟨g, 0, none⟩) n cap) n (us.flatMap enc)) (hb : Blk w g e cur) (hb' : Blk w' g e cur')
    (hsz : cur'.size = cur.size) {k : Nat} (hk : k < n) (p : α) (hget : ∀ j : Nat, cur'[j]? = if k * s ≤ j ∧ j < k * s + s then (enc p)[j - k * s]? else cur[j]?) : OwnV w' b e s (.slice (some ⟨g, 0, none⟩) n cap) n ((us.set k p).flatMap enc) := by
  refine ⟨by rw [flat_len hs, List.length_set, hn], ?_⟩
  rcases h.2 with ⟨e0, _⟩ | ⟨g', cap', cur0, e0, e1, e2, e3, e4, e5, e6⟩
  · cases e0
  · injection e0 with e7 e8 e9
    injection e7 with e7
    injection e7 with e7
    subst e7 e9
    have hc : cur0 = cur := by
      unfold Blk at hb
      rw [hb] at e2
      injection e2 with e2
      injection e2 with e2
      exact e2.symm
    subst hc
    refine .inr ⟨g, cap, cur', rfl, e1, hb', e3, e4, by omega, ?_⟩
    have hns : n * s ≤ cur'.size := by rw [hsz, e5]; exact Nat.mul_le_mul_right s e3
    refine flat_ext hs (by rw [List.length_set, hn]) (by rw [List.length_take]; simp; omega) fun i j hi hj q hq => ?_
    have hlt : i * s + j < n * s := by
      have : (i + 1) * s ≤ n * s := Nat.mul_le_mul_right s hi
      rw [Nat.succ_mul] at this
      omega
    rw [List.getElem?_take_of_lt hlt, Array.getElem?_toList, hget]
    by_cases hik : i = k
    · subst hik
      rw [List.getElem?_set_self (by omega)] at hq
      cases hq
      rw [if_pos ⟨by omega, by omega⟩]
      congr 1
      omega
    · rw [List.getElem?_set_ne (Ne.symm hik)] at hq
      have hne : ¬ (k * s ≤ i * s + j ∧ i * s + j < k * s + s) := by
        rintro ⟨h1, h2⟩
        rcases Nat.lt_or_gt_of_ne hik with h3 | h3
        · have : (i + 1) * s ≤ k * s := Nat.mul_le_mul_right s h3
          rw [Nat.succ_mul] at this
          omega
        · have : (k + 1) * s ≤ i * s := Nat.mul_le_mul_right s h3
          rw [Nat.succ_mul] at this
          omega
      rw [if_neg hne]
      have h4 := flat_get hs hq hj
      rw [← e6, List.getElem?_take_of_lt hlt, Array.getElem?_toList] at h4
      exact h4

theorem Blk.newgK {w : World} {g : Nat} (t : TypeId) (cs : Array Value) (hg : w.heap.size = g) : Blk (w.alloc (.cells cs t)) g t cs := by subst hg; exact Blk.new w t cs
theorem Blk.new3K (W : World) (a b : Obj) (t : TypeId) (cs : Array Value) : Blk (((W.alloc a).alloc b).alloc (.cells cs t)) (W.heap.size + 1 + 1) t cs := by
  have := Blk.new ((W.alloc a).alloc b) t cs
  rwa [World.size_alloc, World.size_alloc] at this
theorem OwnV.fullBlk {w : World} {b s n : Nat} {e : TypeId} {v : Value} {us : List Value} (h : OwnV w b e s v n us) (hn : 0 < n) : ∃ g cap cur, v = .slice (some ⟨g, 0, none⟩) n cap ∧ Blk w g e cur ∧ b ≤ g ∧ n ≤ cap ∧ n * s ≤ cur.size := by
  rcases h.2 with ⟨_, h0⟩ | ⟨g, cap, cur, rfl, hb, hgg, hc, _, h5, _⟩
  · omega
  · exact ⟨g, cap, cur, rfl, hgg, hb, hc, by rw [h5]; exact Nat.mul_le_mul_right s hc⟩
/-- What 'with' hands back: an arena. -/
def RetW (F : Nat → Prop) (sz : Int) (rows : List ARow) (w : World) (e : Ending) (w' : World) : Prop := ∃ A n c, e = .returned (.agg #[.slice A n c, .int .i64 sz]) ∧ RefR F w' 0 (.slice A n c) rows ∧ Ext w w'

set_option maxRecDepth 100000 in
set_option maxHeartbeats 4000000 in
theorem rWith_c (F : Nat → Prop) (w : World) (v : Value) (rows : List ARow) (sz : Int) (k : Nat) (r : ARow) (A1 : Option Addr) (n1 c1 : Nat) (h : RefR F w 0 v rows) (hF : ∀ b, F b → b < w.heap.size) (hsm : rows.length ≤ 1000000) (hk : k < rows.length)
    (hq : OwnI w 0 (.slice A1 n1 c1) r.lits ∧ ∀ b, (Value.slice A1 n1 c1).ownBlock = some b → ¬ F b) :
    Calls Try.prog 76 #[.agg #[v, .int .i64 sz], .int .i64 k, .agg #[.int .i64 r.pos, .int .i64 r.id, .slice A1 n1 c1, .bool r.learnt, .bool r.live]] w (RetW F sz (rows.set k r) w) := by
  obtain ⟨A0, c0, rfl, hc⟩ := RefR.len h
  obtain ⟨us, hus, hu2, hu3, hu4⟩ := h
  have hul : us.length = rows.length := by rw [← hus, List.length_map]
  have hX := (((Ext.refl w).alloc (Obj.cells #[.slice A0 rows.length c0, .int .i64 sz] 58)).alloc (Obj.cells #[.int .i64 r.pos, .int .i64 r.id, .slice A1 n1 c1, .bool r.learnt, .bool r.live] 72)).alloc (Obj.cells #[.slice none 0 0, .int .i64 0] 58)
  have B0 := ((Blk.new w 58 #[.slice A0 rows.length c0, .int .i64 sz]).alloc (Obj.cells #[.int .i64 r.pos, .int .i64 r.id, .slice A1 n1 c1, .bool r.learnt, .bool r.live] 72)).alloc (Obj.cells #[.slice none 0 0, .int .i64 0] 58)
  have B1 := (Blk.new2K w (Obj.cells #[.slice A0 rows.length c0, .int .i64 sz] 58) 72 #[.int .i64 r.pos, .int .i64 r.id, .slice A1 n1 c1, .bool r.learnt, .bool r.live]).alloc (Obj.cells #[.slice none 0 0, .int .i64 0] 58)
  have B2 := Blk.new3K w (Obj.cells #[.slice A0 rows.length c0, .int .i64 sz] 58) (Obj.cells #[.int .i64 r.pos, .int .i64 r.id, .slice A1 n1 c1, .bool r.learnt, .bool r.live] 72) 58 #[.slice none 0 0, .int .i64 0]
  obtain ⟨_, _, e, hsv, _⟩ := (hu2.ext hX).sl (by omega)
  injection e with e1 e2 e3
  clear e2
  subst e1 e3
  have HX := Lib.hid hX
  have HB0 := Lib.hid B0
  have HB1 := Lib.hid B1
  have HB2 := Lib.hid B2
  have HSV := Lib.hid hsv
  have HU4 := Lib.hid hu4
  have HUL := Lib.hid hul
  have HQ := Lib.hid hq
  have HUS := Lib.hid hus
  clear hX B0 B1 B2 hsv hu4 hu2 hul hq hus
  go_enter Try.func76, Try.ntmps76
  go_wp2_with (first | (at_builtin; refine appendV elt12 _ rfl (.tmp 8) (.tmp 10) rfl (w.heap.size + 3) _ 0 [] rfl (own_blk0 5 (by simp) (Blk.newgK _ _ (by simp))) _ _ _ (us.flatMap enc5) rfl (SlV.ext HSV.out ((Ext.refl _).alloc _)) (enc5_one _) (by omega) (by simp) ?_; intro v4 w4 ho4 hg4 hloc; rw [Nat.zero_add, List.nil_append] at ho4; obtain ⟨g, cap, cur, rfl, hcur, hgb, hcap, hcs⟩ := ho4.fullBlk (by omega); have hx4 : Ext w w4 := Ext.grown (HX.out.alloc _) hg4 (fun j hj => by have : w.heap.size + 1 + 1 + 1 = j := Option.some.inj hj; omega); have hne : ∀ i : Nat, i < 3 → some (w.heap.size + i) ≠ (Value.slice (some ⟨w.heap.size + 1 + 1 + 1, 0, none⟩) 0 0).ownBlock := (fun i hi e => by have : w.heap.size + i = w.heap.size + 1 + 1 + 1 := Option.some.inj e; omega); have b0 := (HB0.out.alloc _).grown hg4 (hne 0 (by decide)); have b1 := (HB1.out.alloc _).grown hg4 (hne 1 (by decide)); have b2 := (HB2.out.alloc _).grown hg4 (hne 2 (by decide)); have HO4 := Lib.hid ho4; have HCUR := Lib.hid hcur; have HX4 := Lib.hid hx4; have d0 := b0.cell 0; have d1 := b0.cell 1; have f0 := b0.frozen 0; have r0 := b1.cell 0; have r1 := b1.cell 1; have r2 := b1.cell 2; have r3 := b1.cell 3; have r4 := b1.cell 4; have B0 := Lib.hid b0; have B2 := Lib.hid b2; clear ho4 hg4 hloc hx4 hcur b0 b1 b2 hne) | (refine store_at rfl 72 (.tmp 15) (.tmp 14) (by rfl) g (k * 5) (by rfl) #[.int .i64 r.pos, .int .i64 r.id, .slice A1 n1 c1, .bool r.learnt, .bool r.live] (by rfl) 72 cur HCUR.out (by simp; omega) (by kernel_rfl) (by simp [Value.oneCell']) ?_; intro w5 cur5 hb5 hgr5 hsz5 hget5; have ho5 := OwnV.storeElt enc5_len HUL.out HO4.out HCUR.out hb5 hsz5 hk (r, ⟨A1, n1, c1⟩) (fun j => by rw [hget5 j]; simp [enc5]); clear d0 d1 f0 r0 r1 r2 r3 r4; have b0 := B0.out.grown hgr5 (fun e => by have := Option.some.inj e; omega); have b2 := B2.out.grown hgr5 (fun e => by have := Option.some.inj e; omega); have d0 := b0.cell 0; have d1 := b0.cell 1; have f0 := b0.frozen 0; have g0 := b2.cell 0; have g1 := b2.cell 1; have p0 := b2.frozen 0; have p1 := b2.frozen 1; have HO5 := Lib.hid ho5; have HG5 := Lib.hid hgr5; have HB0 := Lib.hid b0; have HB2 := Lib.hid b2; clear ho5 hgr5 b0 b2 hb5 hget5 hsz5))
  refine bodyPost_ret (v := .agg #[.slice (some ⟨g, 0, none⟩) rows.length cap, .int .i64 sz]) (by simp [results, Try.results76, go_sem, *]) rfl ?_
  refine ⟨_, _, _, rfl, ?_, ?_⟩
  · have h5 : RefR F w5 0 (.slice (some ⟨g, 0, none⟩) rows.length cap) (rows.set k r) := by
      refine ⟨us.set k (r, ⟨A1, n1, c1⟩), by rw [← HUS.out, List.map_set], by rw [List.length_set]; exact HO5.out.less (Nat.zero_le _), fun j hj hf => ?_, fun p hp => ?_⟩
      · have : g = j := Option.some.inj hj
        have := hF j hf
        omega
      · rcases List.mem_or_eq_of_mem_set hp with hp | rfl
        · refine ⟨((HU4.out p hp).1.ext HX4.out).kept HG5.out ?_, (HU4.out p hp).2⟩
          exact own_apartK HO4.out ((HU4.out p hp).1.ext HX4.out) (by decide)
        · exact ⟨(HQ.out.1.ext HX4.out).kept HG5.out (own_apartK HO4.out (HQ.out.1.ext HX4.out) (by decide)), HQ.out.2⟩
    exact RefR.setCell (RefR.setCell (RefR.setCell h5 HB0.out (by decide) (by decide) 0 _) (HB2.out.far (by simp <;> omega) _) (by decide) (by decide) 0 _) ((HB2.out.far (by simp <;> omega) _).set_ 0 _) (by decide) (by decide) 1 _
  · repeat refine Ext.setCell ?_ (by simp <;> omega) _
    exact HX4.out.grown HG5.out (fun j hj => by cases hj; omega)
theorem findA_none {rows : List ARow} {x : Int} (h : rows.find? (atP x) = none) : findA rows x = -1 := by
  unfold findA idxP
  have : rows.findIdx? (atP x) = none := by
    rw [List.findIdx?_eq_none_iff]
    rw [List.find?_eq_none] at h
    intro a ha
    simpa using h a ha
  rw [this]
theorem findA_some {rows : List ARow} {x : Int} {i : Nat} (h : rows.findIdx? (atP x) = some i) : findA rows x = (i : Int) := by
  unfold findA idxP
  rw [h]

set_option maxRecDepth 100000 in
set_option maxHeartbeats 4000000 in
theorem rDrop_c (F : Nat → Prop) (w : World) (v : Value) (S : ASt) (x : Int) (h : RefR F w 0 v S.rows) (hF : ∀ b, F b → b < w.heap.size) (hsm : S.rows.length ≤ 1000000) :
    Calls Try.prog 60 #[.agg #[v, .int .i64 S.size], .int .i64 x] w (RetR F (dropS S x) [.int .i64 (dropE S x)] w) := by
  obtain ⟨A0, c0, rfl, hc⟩ := RefR.len h
  have HX := Lib.hid (((Ext.refl w).alloc (Obj.cells #[.slice A0 S.rows.length c0, .int .i64 S.size] 58)).alloc (Obj.cells #[.slice none 0 0, .int .i64 0] 58))
  have HB0 := Lib.hid ((Blk.new w 58 #[.slice A0 S.rows.length c0, .int .i64 S.size]).alloc (Obj.cells #[.slice none 0 0, .int .i64 0] 58))
  have HB1 := Lib.hid (Blk.new2K w (Obj.cells #[.slice A0 S.rows.length c0, .int .i64 S.size] 58) 58 #[.slice none 0 0, .int .i64 0])
  cases hr : S.rows.find? (atP x) with
  | none =>
    have hE : dropE S x = 20 := by unfold dropE; rw [hr]
    have hS : dropS S x = S := by unfold dropS; rw [hE, if_neg (by decide)]
    have HF := Lib.hid (findA_none hr)
    rw [hE, hS]
    clear hE hS hr
    go_enter Try.func60, Try.ntmps60
    go_wp2_with fail
    refine (rFind_c F _ 0 _ S.rows S.size x (h.ext HX.out) hsm).mono ?_
    rintro e w1 ⟨rfl, hx1⟩
    rw [HF.out]
    have hb0 := HB0.out.ext hx1
    have a0 := hb0.cell 0
    have a1 := hb0.cell 1
    have hd1 := HB1.out.ext hx1
    have g0 := hd1.cell 0
    have g1 := hd1.cell 1
    have p0 := hd1.frozen 0
    have p1 := hd1.frozen 1
    have HX1 := Lib.hid (HX.out.trans hx1)
    clear hb0 hd1 hx1
    go_wp2
    refine bodyPost_ret (v := .tuple #[.agg #[.slice A0 S.rows.length c0, .int .i64 S.size], .int .i64 20]) (by simp [results, Try.results60, go_sem, *]) rfl ?_
    refine ⟨_, rfl, h.ext ?_, ?_⟩
    all_goals
      repeat refine Ext.setCell ?_ (by simp) _
      exact HX1.out
  | some r =>
    obtain ⟨i, hi, hr2, hp, hlv⟩ := find_at hr
    have hE : dropE S x = 0 := by unfold dropE; rw [hr]
    have hS : dropS S x = ⟨S.rows.set i { r with live := false }, S.size⟩ := by
      unfold dropS stepAt
      rw [hE, if_pos rfl, hi]
      simp only [hr2]
    have hil := (List.getElem?_eq_some_iff.1 hr2).1
    have HF := Lib.hid (findA_some hi)
    have HR2 := Lib.hid hr2
    rw [hE, hS]
    clear hE hS hr hi hp hlv hr2
    go_enter Try.func60, Try.ntmps60
    go_wp2_with fail
    refine (rFind_c F _ 0 _ S.rows S.size x (h.ext HX.out) hsm).mono ?_
    rintro e w1 ⟨rfl, hx1⟩
    rw [HF.out]
    have hb0 := HB0.out.ext hx1
    have a0 := hb0.cell 0
    have a1 := hb0.cell 1
    have hX1 := HX.out.trans hx1
    obtain ⟨g, cap, A1, n1, c1, e, hq, z0, z1, z2, z3, z4, _⟩ := (h.ext hX1).at_ HR2.out
    injection e with e1 e2 e3
    subst e1 e3
    have HX1 := Lib.hid hX1
    have HXB := Lib.hid hx1
    have HQ := Lib.hid hq
    have i0 : (0 : Int) ≤ (i : Int) := by omega
    have i1 : (i : Int) < (S.rows.length : Int) := by omega
    clear hb0 hx1 hX1 hq
    have q0 := fun o => keep_allocK (o := o) a0
    have q1 := fun o => keep_allocK (o := o) a1
    go_wp2_with fail
    have HX2 := Lib.hid (HX1.out.alloc (Obj.cells #[.int .i64 r.pos, .int .i64 r.id, .slice A1 n1 c1, .bool r.learnt, .bool false] 72))
    have HXB2 := Lib.hid (HXB.out.alloc (Obj.cells #[.int .i64 r.pos, .int .i64 r.id, .slice A1 n1 c1, .bool r.learnt, .bool false] 72))
    refine (rWith_c F _ _ S.rows S.size i { r with live := false } A1 n1 c1 (h.ext HX2.out) (fun b hb => Nat.lt_of_lt_of_le (hF b hb) HX2.out.size_le) hsm hil ⟨HQ.out.1.ext ((Ext.refl _).alloc _), HQ.out.2⟩).mono ?_
    rintro e w2 ⟨A2, n2, c2, rfl, hr2, hx2⟩
    have hd1 := HB1.out.ext (HXB2.out.trans hx2)
    have g0 := hd1.cell 0
    have g1 := hd1.cell 1
    have p0 := hd1.frozen 0
    have p1 := hd1.frozen 1
    have HD := Lib.hid hd1
    have HRR := Lib.hid hr2
    have HX3 := Lib.hid (HX2.out.trans hx2)
    clear hd1 hr2 hx2 q0 q1
    go_wp2
    refine bodyPost_ret (v := .tuple #[.agg #[.slice A2 n2 c2, .int .i64 S.size], .int .i64 0]) (by simp [results, Try.results60, go_sem, *]) rfl ?_
    refine ⟨_, rfl, RefR.setCell (RefR.setCell HRR.out HD.out (by decide) (by decide) 0 _) (HD.out.set_ 0 _) (by decide) (by decide) 1 _, ?_⟩
    repeat refine Ext.setCell ?_ (by simp) _
    exact HX3.out
end Go.Proofs.Ytbkimfefbdfkbaa
