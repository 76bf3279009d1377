/- Layer 12 (arena): the reference's Put, where it puts. -/
import Derived.Test.YtbkimfefbdfkbaaAs2
import Derived.Test.YtbkimfefbdfkbaaRegE
import Derived.Deep.QuietTactic
import Derived.Deep.DeepCutAuto
import Derived.Deep.RegionHeld3
import Derived.BigRegion
set_option maxRecDepth 100000
namespace Go.Proofs.Ytbkimfefbdfkbaa
open Go.RowKit

def basePut (H n c : Nat) (A : Option Addr) (id : Int) (b : Bool) : List (Nat × Spec) := [(1, .val (.int .i64 id)), (2, .val (.slice A n c)), (3, .val (.bool b)), (4, .val (.pointer (some ⟨H, 0, none⟩)))]
def regPut (H B n c : Nat) (A : Option Addr) (id sz : Int) (b : Bool) (xs : List Int) : List (Nat × Spec) := [(12, .any (fun v W => ∃ g, v = .pointer (some ⟨g, 0, none⟩) ∧ B ≤ g ∧ Blk W g 72 #[.int .i64 0, .int .i64 0, .slice none 0 0, .bool false, .bool false]) (fun _ _ _ ⟨_, h1, h2, h3⟩ hx => ⟨_, h1, h2, h3.ext hx⟩)), (26, .val (.pointer (some ⟨H, 1, none⟩))), (27, .val (.int .i64 sz)), (28, .val (.int .i64 id)), (29, .any (fun v W => ∃ g, v = .slice (some ⟨g, 0, none⟩) 0 0 ∧ B ≤ g ∧ Blk W g 3 #[]) (fun _ _ _ ⟨_, h1, h2, h3⟩ hx => ⟨_, h1, h2, h3.ext hx⟩)), (30, .val (.slice A n c)), (31, .any (fun v W => ∃ A1 n1 c1, v = .slice A1 n1 c1 ∧ OwnI W B (.slice A1 n1 c1) xs) (fun _ _ _ ⟨_, _, _, h1, h2⟩ hx => ⟨_, _, _, h1, h2.ext hx⟩)), (32, .val (.bool b)), (33, .any (fun v W => ∃ A1 n1 c1, v = .agg #[.int .i64 sz, .int .i64 id, .slice A1 n1 c1, .bool b, .bool true] ∧ OwnI W B (.slice A1 n1 c1) xs) (fun _ _ _ ⟨_, _, _, h1, h2⟩ hx => ⟨_, _, _, h1, h2.ext hx⟩))]
theorem keep_allocK {w : World} {a : Addr} {o : Obj} {u : Value} (h : w.cell? a = some u) : (w.alloc o).cell? a = some u := (World.cell?_alloc_lt _ _ _ (World.block_lt_of_cell? w a h)).trans h
theorem keep_setK {w : World} {p a : Addr} {x u : Value} (h : w.cell? a = some u) (hne : p.block ≠ a.block) : (w.setCell p x).cell? a = some u := (World.cell?_setCell_other w p a x (fun e => hne (by rw [e]))).trans h
theorem keep_drewK {w : World} {a : Addr} {u : Value} (h : w.cell? a = some u) : w.drew.cell? a = some u := h
theorem Blk.drewK {w : World} {g : Nat} {t : TypeId} {cs : Array Value} (h : Blk w g t cs) : Blk w.drew g t cs := h
theorem rput_end {F : Nat → Prop} {w w0 wc w4 : World} {S : ASt} {new : ARow} {us : List (ARow × QSl)} {A1 A4 : Option Addr} {n1 c1 n4 c4 : Nat} {v : Value} {sz : Int} {tl : List Value} {cs : Array Value}
    (hus : us.map Prod.fst = S.rows) (hF : ∀ k, F k → k < w.heap.size) (_hu3 : ∀ k, v.ownBlock = some k → ¬ F k)
    (hu4 : ∀ p ∈ us, OwnI w 0 (.slice p.2.A p.2.n p.2.c) p.1.lits ∧ ∀ k, (Value.slice p.2.A p.2.n p.2.c).ownBlock = some k → ¬ F k) (hx3 : Ext w wc) (ho1 : OwnI wc w0.heap.size (.slice A1 n1 c1) new.lits) (hx4 : Ext wc w4)
    (ho4 : OwnV w4 wc.heap.size 72 5 (.slice A4 n4 c4) (0 + S.rows.length + 1) ([] ++ us.flatMap enc5 ++ [.int .i64 new.pos, .int .i64 new.id, .slice A1 n1 c1, .bool new.learnt, .bool new.live]))
    (hb : Blk w4 (w.heap.size + 1) 58 cs) (hs1 : w.heap.size + 2 ≤ w0.heap.size) (hs2 : w0.heap.size ≤ wc.heap.size) (x0 x1 : Value) :
    RetR F ⟨S.rows ++ [new], sz⟩ tl w (.returned (.tuple (.agg #[.slice A4 n4 c4, .int .i64 sz] :: tl).toArray)) ((w4.setCell ⟨w.heap.size + 1, 0, none⟩ x0).setCell ⟨w.heap.size + 1, 1, none⟩ x1) := by
  have h5 : RefR F w4 0 (.slice A4 n4 c4) (S.rows ++ [new]) := by
    refine ⟨us ++ [(new, ⟨A1, n1, c1⟩)], by simp [hus], ?_, fun k hk hf => ?_, fun p hp => ?_⟩
    · rw [List.length_append, List.flatMap_append]
      have h6 := ho4.less (Nat.zero_le _)
      rw [Nat.zero_add, List.nil_append] at h6
      exact h6
    · have := (ho4.blk k hk).1
      have := hF k hf
      omega
    · rw [List.mem_append, List.mem_singleton] at hp
      rcases hp with hp | rfl
      · exact ⟨(hu4 p hp).1.ext (hx3.trans hx4), (hu4 p hp).2⟩
      · refine ⟨(ho1.less (Nat.zero_le _)).ext hx4, fun k hk hf => ?_⟩
        have := (ho1.blk k hk).1
        have := hF k hf
        omega
  refine ⟨_, rfl, ?_, ?_⟩
  · exact RefR.setCell (RefR.setCell h5 hb (by decide) (by decide) 0 x0) (hb.set_ 0 x0) (by decide) (by decide) 1 x1
  · exact ((hx3.trans hx4).setCell (by simp) _).setCell (by simp) _
theorem SlV.blkK {w : World} {g : Nat} {t : TypeId} {cs : Array Value} (h : Blk w g t cs) : SlV w (some ⟨g, 0, none⟩) 1 cs.size cs.toList :=
  ⟨by simp, by decide, fun _ => ⟨_, rfl, fun j u hj => by
    have e : (⟨g, 0, none⟩ : Addr).add j = ⟨g, j, none⟩ := by unfold Addr.add; split <;> simp_all
    rw [e, h.cell]
    simpa using hj⟩⟩
theorem enc5_one (us : List (ARow × QSl)) : ∀ u ∈ us.flatMap enc5, u.oneCell' = true := by
  intro u hu
  obtain ⟨p, _, hp⟩ := List.mem_flatMap.1 hu
  simp only [enc5, List.mem_cons, List.not_mem_nil, or_false] at hp
  rcases hp with rfl | rfl | rfl | rfl | rfl <;> rfl
set_option maxRecDepth 100000 in
set_option maxHeartbeats 16000000 in
theorem rPutGood_c (F : Nat → Prop) (w : World) (v : Value) (S : ASt) (id : Int) (A : Option Addr) (n c : Nat) (lits : List Int) (b : Bool) (h : RefR F w 0 v S.rows) (hF : ∀ k, F k → k < w.heap.size) (hsm : S.rows.length ≤ 1000000) (hs0 : 0 ≤ S.size) (hs1 : S.size ≤ 2000000000) (hl : IntSl w A n lits) (hnc : n ≤ c) (hn : n ≤ 1000) (hE : putE id lits = 0) :
    Calls Try.prog 58 #[.agg #[v, .int .i64 S.size], .int .i64 id, .slice A n c, .bool b] w (RetR F (putS S id lits b) [.int .i64 (putAt S id lits), .int .i64 (putE id lits)] w) := by
  obtain ⟨A0, c0, rfl, hc⟩ := RefR.len h
  have hS : putS S id lits b = ⟨S.rows ++ [⟨S.size, id, lits, b, true⟩], S.size + 3 + lits.length⟩ := by unfold putS; rw [if_pos hE]
  have hP : putAt S id lits = S.size := by unfold putAt; rw [if_pos hE]
  rw [hS, hP, hE]
  clear hS hP
  have hlen := hl.1
  have HB0 := Lib.hid ((Blk.new w 58 #[.slice A0 S.rows.length c0, .int .i64 S.size]).alloc (Obj.cells #[.slice none 0 0, .int .i64 0] 58))
  have HB1 := Lib.hid (Blk.new2K w (Obj.cells #[.slice A0 S.rows.length c0, .int .i64 S.size] 58) 58 #[.slice none 0 0, .int .i64 0])
  have HX := Lib.hid (((Ext.refl w).alloc (Obj.cells #[.slice A0 S.rows.length c0, .int .i64 S.size] 58)).alloc (Obj.cells #[.slice none 0 0, .int .i64 0] 58))
  have hid : ¬ (id < 1 ∨ 10000000 < id) := fun hh => by unfold putE at hE; rw [if_pos hh] at hE; cases hE
  have h1 : ¬ id < 1 := fun hh => hid (Or.inl hh)
  have h2 : ¬ (10000000 : Int) < id := fun hh => hid (Or.inr hh)
  have he : cCheckV lits 100000 = 0 := by unfold putE at hE; rw [if_neg hid] at hE; exact hE
  have HE := Lib.hid he
  clear he hid hE
  go_enter Try.func58, Try.ntmps58
  go_wp2_with fail
  refine (rClause_c _ _ _ lits 100000 _ (hl.ext HX.out) hnc).mono ?_
  rintro e W0 ⟨rfl, hx1⟩
  rw [HE.out]
  have hsz0 : w.heap.size + 2 ≤ W0.heap.size := by have := hx1.size_le; simpa using this
  have HX1 := Lib.hid hx1
  have HC1 : Hid (W0.cell? ⟨w.heap.size, 1, none⟩ = some (.int .i64 S.size)) := Lib.hid ((HB0.out.ext hx1).cell 1)
  have HLI := Lib.hid (hl.ext (HX.out.trans hx1))
  clear hx1
  go_wp2_with fail
  go_cut [12] (fun s wx => ∃ (g : Nat) (A1 : Option Addr) (n1 c1 : Nat), s = .pointer (some ⟨g, 0, none⟩) ∧ W0.heap.size ≤ g ∧ Blk wx g 72 #[.int .i64 S.size, .int .i64 id, .slice A1 n1 c1, .bool b, .bool true] ∧ OwnI wx W0.heap.size (.slice A1 n1 c1) lits ∧ Ext W0 wx)
  case first =>
    refine wp_region_lastS (SpecS (basePut w.heap.size n c A id b) (regPut w.heap.size W0.heap.size n c A id S.size b lits)) 72 12 33 (by kernel_rfl) (by kernel_rfl) (by kernel_rfl) (by kernel_rfl) (by kernel_rfl) (by kernel_rfl) (by kernel_rfl) (by simp) (by simp) SpecS.ext (SpecS.start (by kernel_rfl) ?_) ?_ ?_
    · exact lookup_all (by simp [basePut, Spec.holds])
    · simp only [List.forall_mem_cons]
      repeat' apply And.intro
      · intro _
        refine rop_on [4] (by kernel_rfl) none (by kernel_rfl) (fun k b hk => by cases hk) (fun K a W hK hx hl => ?_)
        have e4 : a.tmps.getD 4 undef = .pointer (some ⟨w.heap.size, 0, none⟩) := (hl 4 (by decide)).1 _ rfl
        exact rop_val (v := .pointer (some ⟨w.heap.size, 1, none⟩)) (by go_simp) (hK _ _ (fun t ht => by cases ht; exact spec_new rfl rfl rfl) (Ext.refl _))
      · intro _
        refine rop_on [26] (by kernel_rfl) none (by kernel_rfl) (fun k b hk => by cases hk) (fun K a W hK hx hl => ?_)
        have e26 : a.tmps.getD 26 undef = .pointer (some ⟨w.heap.size, 1, none⟩) := (hl 26 (by decide)).2 _ rfl
        have z0 := hx.cell HC1.out
        exact rop_val (v := .int .i64 S.size) (by go_simp) (hK _ _ (fun t ht => by cases ht; exact spec_new rfl rfl rfl) (Ext.refl _))
      · intro _
        refine rop_on [1] (by kernel_rfl) none (by kernel_rfl) (fun k b hk => by cases hk) (fun K a W hK hx hl => ?_)
        have e1 : a.tmps.getD 1 undef = .int .i64 id := (hl 1 (by decide)).1 _ rfl
        exact rop_val (v := .int .i64 id) (by go_simp) (hK _ _ (fun t ht => by cases ht; exact spec_new rfl rfl rfl) (Ext.refl _))
      · intro _
        refine rop_on [] (by kernel_rfl) none (by kernel_rfl) (fun k b hk => by cases hk) (fun K a W hK hx hl => ?_)
        exact rop_val2 (v := .slice (some ⟨W.heap.size, 0, none⟩) 0 0) (w' := W.alloc (.cells #[] 3)) (by go_simp) (hK _ _ (fun t ht => by cases ht; exact spec_new rfl rfl ⟨_, rfl, hx.size_le, Blk.new W _ _⟩) ((Ext.refl W).alloc _))
      · intro _
        refine rop_on [2] (by kernel_rfl) none (by kernel_rfl) (fun k b hk => by cases hk) (fun K a W hK hx hl => ?_)
        have e2 : a.tmps.getD 2 undef = .slice A n c := (hl 2 (by decide)).1 _ rfl
        exact rop_val (v := .slice A n c) (by go_simp) (hK _ _ (fun t ht => by cases ht; exact spec_new rfl rfl rfl) (Ext.refl _))
      · intro _
        refine rop_on [29, 30] (by kernel_rfl) none (by kernel_rfl) (fun k b hk => by cases hk) (fun K a W hK hx hl => ?_)
        obtain ⟨g29, e29, hg29, hb29⟩ := (hl 29 (by decide)).2 _ rfl
        have e30 : a.tmps.getD 30 undef = .slice A n c := (hl 30 (by decide)).2 _ rfl
        obtain ⟨A', n', c', w', hrun, ho, hxx⟩ := run_append_emptyI W 33 W0.heap.size g29 hg29 hb29 A n c lits (HLI.out.ext hx) (by omega) hx.size_le
        exact oper_append rfl e29 e30 hrun (hK _ _ (fun t ht => by cases ht; exact spec_new rfl rfl ⟨A', n', c', rfl, ho⟩) hxx)
      · intro _
        refine rop_on [3] (by kernel_rfl) none (by kernel_rfl) (fun k b hk => by cases hk) (fun K a W hK hx hl => ?_)
        have e3 : a.tmps.getD 3 undef = .bool b := (hl 3 (by decide)).1 _ rfl
        exact rop_val (v := .bool b) (by go_simp) (hK _ _ (fun t ht => by cases ht; exact spec_new rfl rfl rfl) (Ext.refl _))
      · intro _
        refine rop_on [27, 28, 31, 32] (by kernel_rfl) none (by kernel_rfl) (fun k b hk => by cases hk) (fun K a W hK hx hl => ?_)
        have e27 : a.tmps.getD 27 undef = .int .i64 S.size := (hl 27 (by decide)).2 _ rfl
        have e28 : a.tmps.getD 28 undef = .int .i64 id := (hl 28 (by decide)).2 _ rfl
        obtain ⟨A1, n1, c1, e31, h31⟩ := (hl 31 (by decide)).2 _ rfl
        have e32 : a.tmps.getD 32 undef = .bool b := (hl 32 (by decide)).2 _ rfl
        have e27' : a.tmps[27]?.getD undef = .int .i64 S.size := by simpa using e27
        have e28' : a.tmps[28]?.getD undef = .int .i64 id := by simpa using e28
        have e31' : a.tmps[31]?.getD undef = .slice A1 n1 c1 := by simpa using e31
        have e32' : a.tmps[32]?.getD undef = .bool b := by simpa using e32
        exact rop_val (v := .agg #[.int .i64 S.size, .int .i64 id, .slice A1 n1 c1, .bool b, .bool true]) (by go_simp) (hK _ _ (fun t ht => by cases ht; exact spec_new rfl rfl ⟨A1, n1, c1, rfl, h31⟩) (Ext.refl _))
      · intro _
        refine rop_on [] (by kernel_rfl) none (by kernel_rfl) (fun k b hk => by cases hk) (fun K a W hK hx hl => ?_)
        exact rop_val2 (v := .pointer (some ⟨W.heap.size, 0, none⟩)) (w' := W.alloc (.cells #[.int .i64 0, .int .i64 0, .slice none 0 0, .bool false, .bool false] 72)) (by go_simp) (hK _ _ (fun t ht => by cases ht; exact spec_new rfl rfl ⟨_, rfl, hx.size_le, Blk.new W _ _⟩) ((Ext.refl W).alloc _))
      · intro hn; cases hn
      · intro x hx; cases hx
    · intro vf wx hx hv
      obtain ⟨g, e12, hg12, hb12⟩ := (hv 12 (by kernel_rfl)).2 _ rfl
      obtain ⟨A1, n1, c1, e33, ho1⟩ := (hv 33 (by kernel_rfl)).2 _ rfl
      refine ⟨g, _, _, _, e12, e33, hb12, rfl, by kernel_rfl, by simp [Value.oneCell'], fun wy hb hgr => ?_⟩
      simp only [fill, List.foldl_cons, List.foldl_nil, List.setIfInBounds_toArray, List.set_cons_zero, List.set_cons_succ]
      rw [e12]
      go_wp2_with fail
      go_meet
      exact ⟨g, A1, n1, c1, rfl, hg12, hb, ho1.kept hgr (Or.inr (ho1.ne_blk hb12 (by decide))), hx.grown hgr (fun k hk => by cases hk; exact hg12)⟩
  case rest =>
    obtain ⟨g, A1, n1, c1, rfl, hg12, hb12, ho1, hx2⟩ := hcut
    obtain ⟨us, hus, hu2, hu3, hu4⟩ := h
    have hx3 := HX.out.trans (HX1.out.trans hx2)
    obtain ⟨_, _, e, hsv, _⟩ := (hu2.ext hx3).sl (by omega)
    injection e with e1 _ e3
    subst e1 e3
    have hb0 := HB0.out.ext (HX1.out.trans hx2)
    have hszc : w.heap.size + 2 ≤ wc.heap.size := Nat.le_trans hsz0 hx2.size_le
    have d0 : wc.cell? ⟨w.heap.size, 0, none⟩ = some (.slice A0 S.rows.length c0) := hb0.cell 0
    have d1 : wc.cell? ⟨w.heap.size, 1, none⟩ = some (.int .i64 S.size) := hb0.cell 1
    have r0 : wc.cell? ⟨g, 0, none⟩ = some (.int .i64 S.size) := hb12.cell 0
    have r1 : wc.cell? ⟨g, 1, none⟩ = some (.int .i64 id) := hb12.cell 1
    have r2 : wc.cell? ⟨g, 2, none⟩ = some (.slice A1 n1 c1) := hb12.cell 2
    have r3 : wc.cell? ⟨g, 3, none⟩ = some (.bool b) := hb12.cell 3
    have r4 : wc.cell? ⟨g, 4, none⟩ = some (.bool true) := hb12.cell 4
    have HSV := Lib.hid hsv
    have HU2 := Lib.hid hu2
    have HU4 := Lib.hid hu4
    have HO1 := Lib.hid ho1
    have HXA := Lib.hid hx3
    have HX2 := Lib.hid hx2
    have HBZ := Lib.hid (HB0.out.ext (HX1.out.trans hx2))
    have HBY := Lib.hid (HB1.out.ext (HX1.out.trans hx2))
    have HB12 := Lib.hid hb12
    clear hsv hu2 hu4 ho1 hx3 hx2 hb12 hb0
    have hw1 : IntKind.i64.wrap (S.size + 3) = S.size + 3 := IntWalk.i64_in _ (by omega)
    have hw2 : IntKind.i64.wrap (S.size + 3 + (n : Int)) = S.size + 3 + (n : Int) := IntWalk.i64_in _ (by omega)
    have nbz : w.heap.size + 1 ≠ w.heap.size := by omega
    have nbg : w.heap.size + 1 ≠ g := by omega
    go_wp2_with fail
    go_region_held3 (fun w' => w'.cell? ⟨w.heap.size, 0, none⟩ = some (.slice A0 S.rows.length c0) ∧ w'.cell? ⟨w.heap.size, 1, none⟩ = some (.int .i64 S.size) ∧ w'.cell? ⟨g, 0, none⟩ = some (.int .i64 S.size) ∧ w'.cell? ⟨g, 1, none⟩ = some (.int .i64 id) ∧ w'.cell? ⟨g, 2, none⟩ = some (.slice A1 n1 c1) ∧ w'.cell? ⟨g, 3, none⟩ = some (.bool b) ∧ w'.cell? ⟨g, 4, none⟩ = some (.bool true))
      (first | with_reducible assumption | (go_split_ands; refine ⟨?_, ?_, ?_, ?_, ?_, ?_, ?_⟩ <;> (repeat (first | with_reducible assumption | with_reducible apply keep_allocK | with_reducible apply keep_drewK | refine keep_setK ?_ (by first | exact nbz | exact nbg)))))
      ((first
        | (refine step_appendV elt12 _ (by rfl) (.tmp 34) (.tmp 36) (by rfl) wc.heap.size _ 0 [] (by rfl) (by first | exact own_blk0 5 (Nat.le_refl _) (Blk.new _ _ _) | exact own_blk0 5 (by omega) (Blk.new2K _ _ _ _) | exact own_blk0 5 (Nat.le_refl _) ((Blk.new _ _ _).alloc _)) _ _ _ (us.flatMap enc5) (by rfl) (SlV.ext HSV.out (show Ext wc _ by (repeat (first | with_reducible exact Ext.refl _ | with_reducible apply Ext.alloc | with_reducible apply Ext.drew | with_reducible apply Ext.drewN | (apply Ext.trans'; assumption))))) (enc5_one _) (by omega) (by simp <;> omega) ?_; intro A3 n3 c3 w3 ho3 hg3 hloc; have hx3 : Ext wc w3 := Ext.grown (show Ext wc _ by (repeat (first | with_reducible exact Ext.refl _ | with_reducible apply Ext.alloc | with_reducible apply Ext.drew | with_reducible apply Ext.drewN | (apply Ext.trans'; assumption)))) hg3 (fun k e => by first | (have : wc.heap.size = k := Option.some.inj e; omega) | (have : wc.heap.size + 1 = k := Option.some.inj e; omega)); have e0 := hx3.cell d0; have e1 := hx3.cell d1; have k0 := hx3.cell r0; have k1 := hx3.cell r1; have k2 := hx3.cell r2; have k3 := hx3.cell r3; have k4 := hx3.cell r4; have m1 := fun o => keep_allocK (o := o) e1; (first | (have hent : Blk w3 (wc.heap.size + 1) 72 #[.int .i64 S.size, .int .i64 id, .slice A1 n1 c1, .bool b, .bool true] := (Blk.drewK (Blk.new2K wc _ _ _)).grown hg3 (fun e => by have : wc.heap.size + 1 = wc.heap.size := Option.some.inj e; omega)) | (have hent : Blk w3 wc.heap.size 72 #[.int .i64 S.size, .int .i64 id, .slice A1 n1 c1, .bool b, .bool true] := (Blk.drewK ((Blk.new wc _ _).alloc _)).grown hg3 (fun e => by have : wc.heap.size = wc.heap.size + 1 := Option.some.inj e; omega)) | skip); have HX3 := Lib.hid hx3; have HO3 := Lib.hid ho3; clear hx3 ho3 hg3 hloc)
        | (refine step_appendV elt12 _ (by rfl) (.tmp 37) (.tmp 39) (by rfl) wc.heap.size _ (0 + S.rows.length) ([] ++ us.flatMap enc5) (by rfl) (by first | exact HO3.out | exact OwnV.alloc HO3.out _) _ _ _ #[.int .i64 S.size, .int .i64 id, .slice A1 n1 c1, .bool b, .bool true].toList (by rfl) (by first | exact SlV.new1K _ _ _ | exact SlV.blkK (by assumption)) (by intro u hu; simp at hu; rcases hu with rfl | rfl | rfl | rfl | rfl <;> rfl) (by omega) (by have := HX3.out.size_le; first | exact this | (simp; omega)) ?_; intro A4 n4 c4 w4 ho4 hg4 hloc; have hx4 : Ext wc w4 := Ext.grown (HX3.out.trans (show Ext w3 _ by (repeat (first | with_reducible exact Ext.refl _ | with_reducible apply Ext.alloc | with_reducible apply Ext.drew | with_reducible apply Ext.drewN | (apply Ext.trans'; assumption))))) hg4 (fun k e => (OwnV.blk HO3.out k e).1); have l0 := hx4.cell d0; have l1 := hx4.cell d1; have l2 := hx4.cell r0; have l3 := hx4.cell r1; have l4 := hx4.cell r2; have l5 := hx4.cell r3; have l6 := hx4.cell r4; have hd4 := HBY.out.ext hx4; have g0 := hd4.cell 0; have g1 := hd4.cell 1; have t0 := hd4.frozen 0; have t1 := hd4.frozen 1; clear hd4; have HX4 := Lib.hid hx4; have HO4 := Lib.hid ho4; clear hx4 ho4 hg4 hloc)))
    all_goals
      go_wp2
      refine bodyPost_ret (v := .tuple #[.agg #[.slice A4 n4 c4, .int .i64 (S.size + 3 + (n : Int))], .int .i64 S.size, .int .i64 0]) (by simp [results, Try.results58, go_sem, *]) rfl ?_
      exact rput_end hus hF hu3 HU4.out HXA.out HO1.out HX4.out HO4.out (HBY.out.ext HX4.out) hsz0 HX2.out.size_le _ _
end Go.Proofs.Ytbkimfefbdfkbaa
