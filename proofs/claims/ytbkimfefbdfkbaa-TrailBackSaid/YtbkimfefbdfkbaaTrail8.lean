/- Layer 13 (trail): what the reference does with a trail. -/
import Derived.Test.YtbkimfefbdfkbaaTrail7
import Derived.Deep.RegionLaw
import Derived.Deep.RegionHeld3
set_option maxRecDepth 100000
namespace Go.Proofs.Ytbkimfefbdfkbaa
open Go.RowKit

theorem own_emptyV (w : World) (e : TypeId) (size : Nat) : OwnV (w.alloc (.cells #[] e)) w.heap.size e size (.slice (some ⟨w.heap.size, 0, none⟩) 0 0) 0 [] :=
  ⟨by simp, Or.inr ⟨w.heap.size, 0, #[], rfl, Nat.le_refl _, heap_alloc_new w _, Nat.le_refl _, by decide, by simp, by simp⟩⟩
theorem own_emptyV2 (W : World) (a : Obj) (e : TypeId) (size : Nat) : OwnV ((W.alloc a).alloc (.cells #[] e)) (W.heap.size + 1) e size (.slice (some ⟨W.heap.size + 1, 0, none⟩) 0 0) 0 [] := by
  have := own_emptyV (W.alloc a) e size
  rwa [World.size_alloc] at this
theorem SlV.of_own {w : World} {base size n : Nat} {e : TypeId} {A : Option Addr} {c : Nat} {us : List Value} (h : OwnV w base e size (.slice A n c) n us) (hn : n ≤ 9223372036854775807) : SlV w A n size us := by
  obtain ⟨A', c', e', hs, _⟩ := OwnV.sl h hn
  injection e' with e1 e2 e3
  subst e1
  exact hs
theorem encT_one (rows : List TRow) : ∀ u ∈ rows.flatMap encT, u.oneCell' = true := by
  intro u hu
  rw [List.mem_flatMap] at hu
  obtain ⟨r, _, hr⟩ := hu
  simp only [encT, List.mem_cons, List.not_mem_nil, or_false] at hr
  rcases hr with rfl | rfl | rfl <;> rfl
theorem OwnV.setCell {w : World} {base size n : Nat} {e : TypeId} {v : Value} {us : List Value} (h : OwnV w base e size v n us) {p : Addr} (hp : ∀ k, v.ownBlock = some k → k ≠ p.block) (u : Value) : OwnV (w.setCell p u) base e size v n us :=
  h.stay (F := fun b => b = p.block) ((Stay.refl (fun b => b = p.block) w).setCell (Or.inl rfl) u) (fun k e => hp k e)
theorem row_eq {g n c k : Nat} (e : (Value.slice (some ⟨g, 0, none⟩) n c).ownBlock = some k) : g = k := Option.some.inj e
theorem Blk.new2 (W : World) (a : Obj) (t : TypeId) (cs : Array Value) : Blk ((W.alloc a).alloc (.cells cs t)) (W.heap.size + 1) t cs := by
  have := Blk.new (W.alloc a) t cs
  rwa [World.size_alloc] at this
theorem Blk.drew {w : World} {g : Nat} {t : TypeId} {cs : Array Value} (h : Blk w g t cs) : Blk w.drew g t cs := h
theorem SlV.blk {w : World} {g : Nat} {t : TypeId} {cs : Array Value} (h : Blk w g t cs) : SlV w (some ⟨g, 0, none⟩) 1 cs.size cs.toList :=
  ⟨by simp, by decide, fun _ => ⟨_, rfl, fun j u hj => by
    have e : (⟨g, 0, none⟩ : Addr).add j = ⟨g, j, none⟩ := by unfold Addr.add; split <;> simp_all
    rw [e, h.cell]
    simpa using hj⟩⟩
/-- One element that was just laid into a block of its own. -/
theorem SlV.new1 (w : World) (cs : Array Value) (t : TypeId) : SlV (w.alloc (.cells cs t)) (some ⟨w.heap.size, 0, none⟩) 1 cs.size cs.toList :=
  ⟨by simp, by decide, fun _ => ⟨_, rfl, fun j u hj => by
    have e : (⟨w.heap.size, 0, none⟩ : Addr).add j = ⟨w.heap.size, j, none⟩ := by unfold Addr.add; split <;> simp_all
    rw [e, cell_of_row (w.alloc (.cells cs t)) w.heap.size j cs t (0, 0) (heap_alloc_new w _)]
    simpa using hj⟩⟩

theorem rNewT_c (v : Int) (w : World) (h1 : -9223372036854775808 ≤ v) (h2 : v ≤ 9223372036854775807) :
    Calls Try.prog 9 #[.int .i64 v] w fun e w' => e = .returned (.tuple #[.agg #[.int .i64 (if v < 0 ∨ 100000 < v then 0 else v), .slice none 0 0, .int .i64 0], .int .i64 (if v < 0 ∨ 100000 < v then 2 else 0)]) ∧ Ext w w' := by
  by_cases h : v < 0 ∨ 100000 < v
  · rw [if_pos h, if_pos h]
    rcases h with h | h
    all_goals
      go_enter Try.func9, Try.ntmps9
      go_wp2
      exact bodyPost_ret (v := .tuple #[.agg #[.int .i64 0, .slice none 0 0, .int .i64 0], .int .i64 2]) (by simp [results, Try.results9, go_sem]) rfl ⟨rfl, by (repeat (first | with_reducible exact Ext.refl _ | with_reducible apply Ext.alloc | with_reducible apply Ext.drew | with_reducible apply Ext.drewN | (apply Ext.trans'; assumption)))⟩
  · rw [if_neg h, if_neg h]
    have h3 : 0 ≤ v := by omega
    have h4 : v ≤ 100000 := by omega
    clear h
    go_enter Try.func9, Try.ntmps9
    go_wp2
    exact bodyPost_ret (v := .tuple #[.agg #[.int .i64 v, .slice none 0 0, .int .i64 0], .int .i64 0]) (by simp [results, Try.results9, go_sem]) rfl ⟨rfl, by (repeat (first | with_reducible exact Ext.refl _ | with_reducible apply Ext.alloc | with_reducible apply Ext.drew | with_reducible apply Ext.drewN | (apply Ext.trans'; assumption)))⟩

/-- What a function of the reference hands back: a trail, and an error. -/
def RetT (S : TSt) (code : Int) (w : World) (e : Ending) (w' : World) : Prop := ∃ sv, e = .returned (.tuple #[.agg #[.int .i64 S.vars, sv, .int .i64 S.depth], .int .i64 code]) ∧ RowsT w' 0 sv S.rows ∧ Ext w w'

set_option maxRecDepth 100000 in
set_option maxHeartbeats 4000000 in
theorem rDecideT_c (w : World) (sv : Value) (S : TSt) (l : Int) (h : RowsT w 0 sv S.rows) (hsm : S.rows.length < 1000000000) (hd1 : 0 ≤ S.depth) (hd2 : S.depth ≤ 1000000000) :
    Calls Try.prog 42 #[.agg #[.int .i64 S.vars, sv, .int .i64 S.depth], .int .i64 l] w (RetT (decT S l) (mayV S l) w) := by
  obtain ⟨A, c, e, hc⟩ := OwnV.len h
  subst e
  by_cases hm : mayV S l = 0
  · have HM := Lib.hid hm
    clear hm
    have hb0 := (Blk.new w 30 #[.int .i64 S.vars, .slice A S.rows.length c, .int .i64 S.depth]).alloc (Obj.cells #[.int .i64 0, .slice none 0 0, .int .i64 0] 30)
    have HB0 := Lib.hid hb0
    clear hb0
    go_enter Try.func42, Try.ntmps42
    go_wp2_with fail
    refine (rMayT_c _ 0 _ S l (h.ext (by (repeat (first | with_reducible exact Ext.refl _ | with_reducible apply Ext.alloc | with_reducible apply Ext.drew | with_reducible apply Ext.drewN | (apply Ext.trans'; assumption))))) (by omega)).mono ?_
    rintro e w1 ⟨rfl, hx1⟩
    rw [HM.out]
    have hb1 := HB0.out.ext hx1
    have a0 := hb1.cell 0
    have a1 := hb1.cell 1
    have a2 := hb1.cell 2
    have f2 := hb1.frozen 2
    go_wp2
    have hx2 : Ext w w1 := by (repeat (first | with_reducible exact Ext.refl _ | with_reducible apply Ext.alloc | with_reducible apply Ext.drew | with_reducible apply Ext.drewN | (apply Ext.trans'; assumption)))
    have hbW := hb1.set_ 2 (.int .i64 (S.depth + 1))
    have hRW : RowsT (w1.setCell ⟨w.heap.size, 2, none⟩ (.int .i64 (S.depth + 1))) 0 (.slice A S.rows.length c) S.rows := by
      have h1 := h.ext hx2
      have hne : Value.ownBlock (.slice A S.rows.length c) ≠ some w.heap.size := fun e => by
        have := (OwnV.blk h w.heap.size e).2
        omega
      exact OwnV.kept h1 (row := some w.heap.size) ⟨rfl, rfl, rfl, by rw [World.size_setCell]; exact Nat.le_refl _, fun k _ hk => Below.heap_setCell w1 _ _ k (fun e => hk (by rw [e]))⟩ (Or.inr hne)
    have hxW : Ext w (w1.setCell ⟨w.heap.size, 2, none⟩ (.int .i64 (S.depth + 1))) := hx2.setCell (Nat.le_refl _) _
    have hszW : w.heap.size + 2 ≤ (w1.setCell ⟨w.heap.size, 2, none⟩ (.int .i64 (S.depth + 1))).heap.size := by rw [World.size_setCell]; have := hx1.size_le; simpa using this
    have hb4W := (((Blk.new (w.alloc (.cells #[.int .i64 S.vars, .slice A S.rows.length c, .int .i64 S.depth] 30)) 30 #[.int .i64 0, .slice none 0 0, .int .i64 0]).ext hx1).far (p := ⟨w.heap.size, 2, none⟩) (by simp) (.int .i64 (S.depth + 1)))
    rw [World.size_alloc] at hb4W
    generalize w1.setCell ⟨w.heap.size, 2, none⟩ (.int .i64 (S.depth + 1)) = W at hbW hRW hxW hszW hb4W ⊢
    have HBW := Lib.hid hbW
    have HRW := Lib.hid hRW
    have HXW := Lib.hid hxW
    have HB4 := Lib.hid hb4W
    have d1 : W.cell? ⟨w.heap.size, 1, none⟩ = some (.slice A S.rows.length c) := hbW.cell 1
    have d2 : W.cell? ⟨w.heap.size, 2, none⟩ = some (.int .i64 (S.depth + 1)) := hbW.cell 2
    clear hbW hRW hxW hb4W hb1 a0 a1 a2 f2 hx1 hx2
    have n1 : ∀ o, (W.alloc o).cell? ⟨w.heap.size, 1, none⟩ = some (.slice A S.rows.length c) := fun o => ((Ext.refl W).alloc o).cell d1
    have n2 : ∀ o, (W.alloc o).cell? ⟨w.heap.size, 2, none⟩ = some (.int .i64 (S.depth + 1)) := fun o => ((Ext.refl W).alloc o).cell d2
    have n3 : ∀ o o', ((W.alloc o).alloc o').cell? ⟨w.heap.size, 1, none⟩ = some (.slice A S.rows.length c) := fun o o' => (((Ext.refl W).alloc o).alloc o').cell d1
    have n4 : ∀ o o', ((W.alloc o).alloc o').cell? ⟨w.heap.size, 2, none⟩ = some (.int .i64 (S.depth + 1)) := fun o o' => (((Ext.refl W).alloc o).alloc o').cell d2
    go_region_law
      ((first
        | (refine step_appendV eltT _ (by rfl) (.tmp 18) (.tmp 20) (by rfl) W.heap.size _ 0 [] (by rfl) (by first | exact OwnV.less (own_emptyV _ _ _) (by simp) | exact OwnV.less (own_emptyV2 _ _ _ _) (by omega) | exact OwnV.less (OwnV.alloc (own_emptyV _ _ _) _) (by simp)) _ _ _ (S.rows.flatMap encT) (by rfl) (SlV.ext (SlV.of_own HRW.out (by omega)) (show Ext W _ by (repeat (first | with_reducible exact Ext.refl _ | with_reducible apply Ext.alloc | with_reducible apply Ext.drew | with_reducible apply Ext.drewN | (apply Ext.trans'; assumption))))) (encT_one _) (by omega) (by simp <;> omega) ?_; intro A3 n3 c3 w3 ho3 hg3 hloc; have hx3 : Ext W w3 := Ext.grown (show Ext W _ by (repeat (first | with_reducible exact Ext.refl _ | with_reducible apply Ext.alloc | with_reducible apply Ext.drew | with_reducible apply Ext.drewN | (apply Ext.trans'; assumption)))) hg3 (fun k e => by have := row_eq e; omega); have hb3 := HBW.out.ext hx3; have e1 := hb3.cell 1; have e2 := hb3.cell 2; have m2 : ∀ o, (w3.alloc o).cell? ⟨w.heap.size, 2, none⟩ = some (.int .i64 (S.depth + 1)) := fun o => ((Ext.refl w3).alloc o).cell e2; clear hb3; have HX3 := Lib.hid hx3; (first | (have hent : Blk w3 (W.heap.size + 1) 49 #[.int .i64 l, .int .i64 (S.depth + 1), .int .i64 (-1)] := (Blk.drew (Blk.new2 W _ _ _)).grown hg3 (fun e => by have := row_eq e.symm; omega)) | (have hent : Blk w3 W.heap.size 49 #[.int .i64 l, .int .i64 (S.depth + 1), .int .i64 (-1)] := (Blk.drew ((Blk.new W _ _).alloc _)).grown hg3 (fun e => by have := row_eq e.symm; omega)) | skip); have HO3 := Lib.hid ho3; clear hx3 ho3 hg3 hloc)
        | (refine step_appendV eltT _ (by rfl) (.tmp 21) (.tmp 26) (by rfl) W.heap.size _ (0 + S.rows.length) ([] ++ S.rows.flatMap encT) (by rfl) (by first | exact HO3.out | exact OwnV.alloc HO3.out _) _ _ _ #[.int .i64 l, .int .i64 (S.depth + 1), .int .i64 (-1)].toList (by rfl) (by first | exact SlV.new1 _ _ _ | exact SlV.blk (by assumption)) (by intro u hu; simp at hu; rcases hu with rfl | rfl | rfl <;> rfl) (by omega) (by have := HX3.out.size_le; first | exact this | (simp; omega)) ?_; intro A4 n4 c4 w4 ho4 hg4 hloc; have hx4 : Ext W w4 := Ext.grown (HX3.out.trans (show Ext w3 _ by (repeat (first | with_reducible exact Ext.refl _ | with_reducible apply Ext.alloc | with_reducible apply Ext.drew | with_reducible apply Ext.drewN | (apply Ext.trans'; assumption))))) hg4 (fun k e => (OwnV.blk HO3.out k e).1); have hb4 := HBW.out.ext hx4; have e0 := hb4.cell 0; have e1 := hb4.cell 1; have f1 := hb4.frozen 1; have e2 := hb4.cell 2; have hd4 := HB4.out.ext hx4; have g0 := hd4.cell 0; have g1 := hd4.cell 1; have g2 := hd4.cell 2; have p0 := hd4.frozen 0; have p1 := hd4.frozen 1; have p2 := hd4.frozen 2; clear hb4 hd4; have HX4 := Lib.hid hx4; have HO4 := Lib.hid ho4; clear hx4 ho4 hg4 hloc)))
    all_goals
      go_wp2
      refine bodyPost_ret (v := .tuple #[.agg #[.int .i64 S.vars, .slice A4 n4 c4, .int .i64 (S.depth + 1)], .int .i64 0]) (by simp [results, Try.results42, go_sem, *]) rfl ?_
      have hd : decT S l = ⟨S.vars, S.rows ++ [⟨l, S.depth + 1, -1⟩], S.depth + 1⟩ := by unfold decT; rw [if_pos HM.out]
      rw [hd, HM.out]
      refine ⟨_, rfl, ?_, ?_⟩
      · have h5 : RowsT w4 0 (.slice A4 n4 c4) (S.rows ++ [⟨l, S.depth + 1, -1⟩]) := by
          have := OwnV.less HO4.out (Nat.zero_le _)
          unfold RowsT
          rw [List.length_append, List.flatMap_append]
          simpa [encT] using this
        have hne : ∀ k, (Value.slice A4 n4 c4).ownBlock = some k → W.heap.size ≤ k := fun k e => (OwnV.blk HO4.out k e).1
        repeat refine OwnV.setCell ?_ (fun k e => by have := hne k e; simp; omega) _
        exact h5
      · have h6 := HXW.out.trans HX4.out
        repeat refine Ext.setCell ?_ (by simp) _
        exact h6
  · have hmb : (mayV S l != 0) = true := by simpa using hm
    have HM := Lib.hid hm
    clear hm
    have hb0 := (Blk.new w 30 #[.int .i64 S.vars, .slice A S.rows.length c, .int .i64 S.depth]).alloc (Obj.cells #[.int .i64 0, .slice none 0 0, .int .i64 0] 30)
    have HB0 := Lib.hid hb0
    have HB4 := Lib.hid (Blk.new2 w (Obj.cells #[.int .i64 S.vars, .slice A S.rows.length c, .int .i64 S.depth] 30) 30 #[.int .i64 0, .slice none 0 0, .int .i64 0])
    clear hb0
    go_enter Try.func42, Try.ntmps42
    go_wp2_with fail
    refine (rMayT_c _ 0 _ S l (h.ext (by (repeat (first | with_reducible exact Ext.refl _ | with_reducible apply Ext.alloc | with_reducible apply Ext.drew | with_reducible apply Ext.drewN | (apply Ext.trans'; assumption))))) (by omega)).mono ?_
    rintro e w1 ⟨rfl, hx1⟩
    have hb1 := HB0.out.ext hx1
    have a0 := hb1.cell 0
    have a1 := hb1.cell 1
    have a2 := hb1.cell 2
    have hd1 := HB4.out.ext hx1
    have g0 := hd1.cell 0
    have g1 := hd1.cell 1
    have g2 := hd1.cell 2
    have p0 := hd1.frozen 0
    have p1 := hd1.frozen 1
    have p2 := hd1.frozen 2
    clear hb1 hd1
    go_wp2
    refine bodyPost_ret (v := .tuple #[.agg #[.int .i64 S.vars, .slice A S.rows.length c, .int .i64 S.depth], .int .i64 (mayV S l)]) (by simp [results, Try.results42, go_sem, *]) rfl ?_
    have hd : decT S l = S := by unfold decT; rw [if_neg HM.out]
    rw [hd]
    have hx2 : Ext w w1 := by (repeat (first | with_reducible exact Ext.refl _ | with_reducible apply Ext.alloc | with_reducible apply Ext.drew | with_reducible apply Ext.drewN | (apply Ext.trans'; assumption)))
    refine ⟨_, rfl, ?_, ?_⟩
    · have h5 : RowsT w1 0 (.slice A S.rows.length c) S.rows := h.ext hx2
      have hne : ∀ k, (Value.slice A S.rows.length c).ownBlock = some k → k < w.heap.size := fun k e => (OwnV.blk h k e).2
      repeat refine OwnV.setCell ?_ (fun k e => by have := hne k e; simp; omega) _
      exact h5
    · repeat refine Ext.setCell ?_ (by simp) _
      exact hx2
end Go.Proofs.Ytbkimfefbdfkbaa
