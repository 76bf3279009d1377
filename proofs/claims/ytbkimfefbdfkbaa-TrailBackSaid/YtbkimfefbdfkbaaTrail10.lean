/- Layer 13 (trail): the reference goes back to a level. -/
import Derived.Test.YtbkimfefbdfkbaaTrail9
set_option maxRecDepth 100000
namespace Go.Proofs.Ytbkimfefbdfkbaa
open Go.RowKit

theorem own_oneI (w : World) (x : Int) : OwnI (w.alloc (.cells #[.int .i64 x] 3)) w.heap.size (.slice (some ⟨w.heap.size, 0, none⟩) 1 1) [x] :=
  ⟨by simp, Or.inr ⟨w.heap.size, 1, #[.int .i64 x], rfl, Nat.le_refl _, heap_alloc_new w _, Nat.le_refl _, by decide, by simp, by simp⟩⟩
theorem OwnV.ne_blk {w : World} {base size n g : Nat} {e t : TypeId} {v : Value} {us : List Value} {cs : Array Value} (h : OwnV w base e size v n us) (hg : Blk w g t cs) (hne : e ≠ t) : v.ownBlock ≠ some g := by
  rcases h.2 with ⟨rfl, _⟩ | ⟨g', cap, cur, rfl, _, hh, _⟩
  · simp [Value.ownBlock]
  · intro he
    have : g' = g := by simpa [Value.ownBlock] using he
    subst this
    exact Blk.ne_ (t := e) hh hg hne rfl
/-- A row of entries and a row of numbers never share a block. -/
theorem own_apart {w : World} {b1 b2 size n : Nat} {e : TypeId} {v u : Value} {us : List Value} {xs : List Int} (h : OwnV w b1 e size v n us) (k : OwnI w b2 u xs) (hne : e ≠ 3) : v.ownBlock = none ∨ v.ownBlock ≠ u.ownBlock := by
  rcases k.2 with ⟨rfl, _⟩ | ⟨g, cap, cur, rfl, _, hh, _⟩
  · cases hv : v.ownBlock with
    | none => exact Or.inl rfl
    | some g => exact Or.inr (by simp [Value.ownBlock])
  · exact Or.inr (OwnV.ne_blk h (t := 3) hh hne)
theorem own_apart2 {w : World} {b1 b2 size n : Nat} {e : TypeId} {v u : Value} {us : List Value} {xs : List Int} (h : OwnV w b1 e size v n us) (k : OwnI w b2 u xs) (hne : e ≠ 3) : u.ownBlock = none ∨ u.ownBlock ≠ v.ownBlock := by
  rcases own_apart h k hne with e | e
  · rw [e]; cases u.ownBlock <;> simp
  · exact Or.inr (Ne.symm e)
theorem beyond_snoc (rows : List TRow) (r : TRow) (lv : Int) : beyond (rows ++ [r]) lv = beyond rows lv ++ if r.level ≤ lv then [] else [r] := by
  unfold beyond
  rw [List.filter_append]
  by_cases h : r.level ≤ lv <;> simp [h]
def RetBT (S : TSt) (lev : Int) (w : World) (e : Ending) (w' : World) : Prop :=
  ∃ sv v, e = .returned (.tuple #[.agg #[.int .i64 S.vars, sv, .int .i64 (backT S lev).depth], v]) ∧ RowsT w' 0 sv (backT S lev).rows ∧ OwnI w' w.heap.size v (backO S lev) ∧ Ext w w'

set_option maxRecDepth 100000 in
set_option maxHeartbeats 4000000 in
theorem rBackT_c (w : World) (sv : Value) (S : TSt) (lev : Int) (h : RowsT w 0 sv S.rows) (hsm : S.rows.length ≤ 1000000000) (hbd : ∀ r ∈ S.rows, -9223372036854775808 ≤ r.lit ∧ r.lit ≤ 9223372036854775807) :
    Calls Try.prog 44 #[.agg #[.int .i64 S.vars, sv, .int .i64 S.depth], .int .i64 lev] w (RetBT S lev w) := by
  obtain ⟨vars, rows, depth⟩ := S
  dsimp only at h hsm hbd ⊢
  obtain ⟨A, c, rfl, hc⟩ := OwnV.len h
  have HBD := Lib.hid hbd
  clear hbd
  have HX0 := Lib.hid (((Ext.refl w).alloc (Obj.cells #[.int .i64 vars, .slice A rows.length c, .int .i64 depth] 30)).alloc (Obj.cells #[.int .i64 0, .slice none 0 0, .int .i64 0] 30))
  have HB0 := Lib.hid ((Blk.new w 30 #[.int .i64 vars, .slice A rows.length c, .int .i64 depth]).alloc (Obj.cells #[.int .i64 0, .slice none 0 0, .int .i64 0] 30))
  have HBB := Lib.hid (Blk.new2 w (Obj.cells #[.int .i64 vars, .slice A rows.length c, .int .i64 depth] 30) 30 #[.int .i64 0, .slice none 0 0, .int .i64 0])
  by_cases hneg : lev < 0
  · have HC : Hid (clampV lev = 0) := by unfold Hid clampV; rw [if_pos hneg]
    go_enter Try.func44, Try.ntmps44
    go_wp2
    go_loopw [6, 7, 8] (fun s u i wr => ∃ k : Nat, k ≤ rows.length ∧ i = .int .i64 k ∧ OwnV wr (w.heap.size + 2) 49 3 s (upTo (rows.take k) (0)).length ((upTo (rows.take k) (0)).flatMap encT) ∧ OwnI wr (w.heap.size + 2) u ((litsT (beyond (rows.take k) (0))).reverse) ∧ Ext ((w.alloc (Obj.cells #[.int .i64 vars, .slice A rows.length c, .int .i64 depth] 30)).alloc (Obj.cells #[.int .i64 0, .slice none 0 0, .int .i64 0] 30)) wr) (fun _ _ i _ => rows.length - (intOf i).toNat)
    case atStart => exact ⟨0, Nat.zero_le _, rfl, OwnV.nil _ _ _ _, OwnI.nil _ _, Ext.refl _⟩
    case round =>
      obtain ⟨k, hk, rfl, hs, hu, hx⟩ := hrel
      have hsz : w.heap.size + 2 ≤ wr.heap.size := by have := hx.size_le; simpa using this
      have hb := HB0.out.ext hx
      have cb1 := hb.cell 1
      have hl1 : (upTo (rows.take k) (0)).length ≤ k := Nat.le_trans (List.length_filter_le _ _) (List.length_take_le _ _)
      have hl2 : ((litsT (beyond (rows.take k) (0))).reverse).length ≤ k := by rw [List.length_reverse]; unfold litsT; rw [List.length_map]; exact Nat.le_trans (List.length_filter_le _ _) (List.length_take_le _ _)
      have hbdu : ∀ x ∈ (litsT (beyond (rows.take k) (0))).reverse, -9223372036854775808 ≤ x ∧ x ≤ 9223372036854775807 := fun x hx => by
        rw [List.mem_reverse] at hx
        obtain ⟨r, hr, rfl⟩ := List.mem_map.1 hx
        exact HBD.out r (List.mem_of_mem_take (List.mem_filter.1 hr).1)
      obtain ⟨Au, nu, cu, rfl, hsu⟩ := hu.sl (by omega) hbdu
      have hnu : nu ≤ 1000000000 := by have := hsu.1; omega
      have HS := Lib.hid hs
      have HU := Lib.hid hu
      have HX := Lib.hid hx
      have HSU := Lib.hid hsu
      have HL1 : Hid ((upTo (rows.take k) (0)).length + 1 ≤ 1000000000000) := by unfold Hid; omega
      clear hs hu hx hb hl1 hl2 hbdu hsu
      by_cases hlt : k < rows.length
      · obtain ⟨g, cap, r, e, hr, c1, c2, c3⟩ := (h.ext (HX0.out.trans HX.out)).at_ hlt
        injection e with e1 e2 e3
        subst e1 e3
        have HT := Lib.hid (take_succ_of hr.out)
        have HU1 := Lib.hid (upTo_snoc (rows.take k) r (0))
        have HB1 := Lib.hid (beyond_snoc (rows.take k) r (0))
        by_cases hle : r.level ≤ 0
        · go_wp2_with (at_builtin; refine appendV eltT _ rfl (.tmp 26) (.tmp 32) rfl (w.heap.size + 2) _ _ _ rfl (OwnV.alloc HS.out _) _ _ _ (encT r) rfl (SlV.new1 _ _ _) (by intro u hu; simp [encT] at hu; rcases hu with rfl | rfl | rfl <;> rfl) HL1.out (by simp; omega) ?_; intro v4 w4 ho4 hg4 hloc; obtain ⟨A4, n4, c4, rfl⟩ := OwnV.form ho4; have HO4 := Lib.hid ho4; have HG4 := Lib.hid hg4; clear ho4 hg4 hloc)
          go_roundw
          case rel =>
            refine ⟨k + 1, by omega, by go_num, ?_, ?_, Ext.grown (HX.out.alloc _) HG4.out (fun j hj => by have := (OwnV.blk HS.out j hj).1; simp; omega)⟩
            · rw [HT.out, HU1.out, if_pos hle, List.length_append, List.flatMap_append]
              have := HO4.out
              simpa using this
            · rw [HT.out, HB1.out, if_pos hle, List.append_nil]
              exact (HU.out.alloc _).kept HG4.out (own_apart2 HS.out HU.out (by decide))
          case measure => simp [intOf]; omega
        · go_wp2_with (at_builtin; refine appendS _ rfl (.tmp 40) (.tmp 41) rfl wr.heap.size _ _ rfl (own_oneI _ _) _ _ _ _ rfl (HSU.out.ext ((Ext.refl _).alloc _)) (by simp; omega) (by simp) ?_; intro v4 w4 ho4 hg4 hloc; have HO4 := Lib.hid ho4; have HG4 := Lib.hid hg4; clear ho4 hg4 hloc)
          go_roundw
          case rel =>
            have hx4 : Ext wr w4 := Ext.grown ((Ext.refl _).alloc _) HG4.out (fun j hj => by have := row_eq hj; omega)
            refine ⟨k + 1, by omega, by go_num, ?_, ?_, HX.out.trans hx4⟩
            · rw [HT.out, HU1.out, if_neg hle, List.append_nil]
              exact OwnV.ext HS.out hx4
            · rw [HT.out, HB1.out, if_neg hle]
              have h5 := OwnI.less HO4.out hsz
              unfold litsT at h5 ⊢
              rw [List.map_append, List.reverse_append]
              exact h5
          case measure => simp [intOf]; omega
      · have hs := HS.out
        have hu := HU.out
        have hsu := HSU.out
        rw [take_len_of rfl hlt] at hs hu hsu
        obtain ⟨As, ns, cs, rfl⟩ := OwnV.form hs
        have hb := HB0.out.ext HX.out
        have d0 := hb.cell 0
        have d2 := hb.cell 2
        have q1 := hb.frozen 1
        have q2 := hb.frozen 2
        have hd1 := HBB.out.ext HX.out
        have g0 := hd1.cell 0
        have g1 := hd1.cell 1
        have g2 := hd1.cell 2
        have p0 := hd1.frozen 0
        have p1 := hd1.frozen 1
        have p2 := hd1.frozen 2
        have HS2 := Lib.hid hs
        have HU2 := Lib.hid hu
        have HD : Hid ((backT ⟨vars, rows, depth⟩ lev).rows = upTo rows (0) ∧ backO ⟨vars, rows, depth⟩ lev = (litsT (beyond rows (0))).reverse ∧ (backT ⟨vars, rows, depth⟩ lev).depth = if (0) < depth then (0) else depth) := by
          unfold Hid backT backO; dsimp only; rw [HC.out]; exact ⟨rfl, rfl, rfl⟩
        clear hs hu hsu hb hd1
        by_cases hdl : (0) < depth
        · go_wp2
          refine bodyPost_ret (v := .tuple #[.agg #[.int .i64 vars, .slice As ns cs, .int .i64 (0)], .slice Au nu cu]) (by simp [results, Try.results44, go_sem, *]) rfl ?_
          refine ⟨.slice As ns cs, .slice Au nu cu, by rw [HD.out.2.2, if_pos hdl], ?_, ?_, ?_⟩
          · rw [HD.out.1]
            have hne : ∀ k, (Value.slice As ns cs).ownBlock = some k → w.heap.size + 2 ≤ k := fun k e => (OwnV.blk HS2.out k e).1
            repeat refine OwnV.setCell ?_ (fun k e => by have := hne k e; simp; omega) _
            exact OwnV.less HS2.out (Nat.zero_le _)
          · rw [HD.out.2.1]
            refine OwnI.less (b := w.heap.size + 2) ?_ (by omega)
            have hne : ∀ k, (Value.slice Au nu cu).ownBlock = some k → w.heap.size + 2 ≤ k := fun k e => (HU2.out.blk k e).1
            repeat refine OwnI.setCell ?_ (fun k e => by have := hne k e; simp; omega) _
            exact HU2.out
          · repeat refine Ext.setCell ?_ (by simp) _
            exact HX0.out.trans HX.out
        · go_wp2
          refine bodyPost_ret (v := .tuple #[.agg #[.int .i64 vars, .slice As ns cs, .int .i64 depth], .slice Au nu cu]) (by simp [results, Try.results44, go_sem, *]) rfl ?_
          refine ⟨.slice As ns cs, .slice Au nu cu, by rw [HD.out.2.2, if_neg (by omega)], ?_, ?_, ?_⟩
          · rw [HD.out.1]
            have hne : ∀ k, (Value.slice As ns cs).ownBlock = some k → w.heap.size + 2 ≤ k := fun k e => (OwnV.blk HS2.out k e).1
            repeat refine OwnV.setCell ?_ (fun k e => by have := hne k e; simp; omega) _
            exact OwnV.less HS2.out (Nat.zero_le _)
          · rw [HD.out.2.1]
            refine OwnI.less (b := w.heap.size + 2) ?_ (by omega)
            have hne : ∀ k, (Value.slice Au nu cu).ownBlock = some k → w.heap.size + 2 ≤ k := fun k e => (HU2.out.blk k e).1
            repeat refine OwnI.setCell ?_ (fun k e => by have := hne k e; simp; omega) _
            exact HU2.out
          · repeat refine Ext.setCell ?_ (by simp) _
            exact HX0.out.trans HX.out
  · have HC : Hid (clampV lev = lev) := by unfold Hid clampV; rw [if_neg hneg]
    go_enter Try.func44, Try.ntmps44
    go_wp2
    go_loopw [6, 7, 8] (fun s u i wr => ∃ k : Nat, k ≤ rows.length ∧ i = .int .i64 k ∧ OwnV wr (w.heap.size + 2) 49 3 s (upTo (rows.take k) (lev)).length ((upTo (rows.take k) (lev)).flatMap encT) ∧ OwnI wr (w.heap.size + 2) u ((litsT (beyond (rows.take k) (lev))).reverse) ∧ Ext ((w.alloc (Obj.cells #[.int .i64 vars, .slice A rows.length c, .int .i64 depth] 30)).alloc (Obj.cells #[.int .i64 0, .slice none 0 0, .int .i64 0] 30)) wr) (fun _ _ i _ => rows.length - (intOf i).toNat)
    case atStart => exact ⟨0, Nat.zero_le _, rfl, OwnV.nil _ _ _ _, OwnI.nil _ _, Ext.refl _⟩
    case round =>
      obtain ⟨k, hk, rfl, hs, hu, hx⟩ := hrel
      have hsz : w.heap.size + 2 ≤ wr.heap.size := by have := hx.size_le; simpa using this
      have hb := HB0.out.ext hx
      have cb1 := hb.cell 1
      have hl1 : (upTo (rows.take k) (lev)).length ≤ k := Nat.le_trans (List.length_filter_le _ _) (List.length_take_le _ _)
      have hl2 : ((litsT (beyond (rows.take k) (lev))).reverse).length ≤ k := by rw [List.length_reverse]; unfold litsT; rw [List.length_map]; exact Nat.le_trans (List.length_filter_le _ _) (List.length_take_le _ _)
      have hbdu : ∀ x ∈ (litsT (beyond (rows.take k) (lev))).reverse, -9223372036854775808 ≤ x ∧ x ≤ 9223372036854775807 := fun x hx => by
        rw [List.mem_reverse] at hx
        obtain ⟨r, hr, rfl⟩ := List.mem_map.1 hx
        exact HBD.out r (List.mem_of_mem_take (List.mem_filter.1 hr).1)
      obtain ⟨Au, nu, cu, rfl, hsu⟩ := hu.sl (by omega) hbdu
      have hnu : nu ≤ 1000000000 := by have := hsu.1; omega
      have HS := Lib.hid hs
      have HU := Lib.hid hu
      have HX := Lib.hid hx
      have HSU := Lib.hid hsu
      have HL1 : Hid ((upTo (rows.take k) (lev)).length + 1 ≤ 1000000000000) := by unfold Hid; omega
      clear hs hu hx hb hl1 hl2 hbdu hsu
      by_cases hlt : k < rows.length
      · obtain ⟨g, cap, r, e, hr, c1, c2, c3⟩ := (h.ext (HX0.out.trans HX.out)).at_ hlt
        injection e with e1 e2 e3
        subst e1 e3
        have HT := Lib.hid (take_succ_of hr.out)
        have HU1 := Lib.hid (upTo_snoc (rows.take k) r (lev))
        have HB1 := Lib.hid (beyond_snoc (rows.take k) r (lev))
        by_cases hle : r.level ≤ lev
        · go_wp2_with (at_builtin; refine appendV eltT _ rfl (.tmp 26) (.tmp 32) rfl (w.heap.size + 2) _ _ _ rfl (OwnV.alloc HS.out _) _ _ _ (encT r) rfl (SlV.new1 _ _ _) (by intro u hu; simp [encT] at hu; rcases hu with rfl | rfl | rfl <;> rfl) HL1.out (by simp; omega) ?_; intro v4 w4 ho4 hg4 hloc; obtain ⟨A4, n4, c4, rfl⟩ := OwnV.form ho4; have HO4 := Lib.hid ho4; have HG4 := Lib.hid hg4; clear ho4 hg4 hloc)
          go_roundw
          case rel =>
            refine ⟨k + 1, by omega, by go_num, ?_, ?_, Ext.grown (HX.out.alloc _) HG4.out (fun j hj => by have := (OwnV.blk HS.out j hj).1; simp; omega)⟩
            · rw [HT.out, HU1.out, if_pos hle, List.length_append, List.flatMap_append]
              have := HO4.out
              simpa using this
            · rw [HT.out, HB1.out, if_pos hle, List.append_nil]
              exact (HU.out.alloc _).kept HG4.out (own_apart2 HS.out HU.out (by decide))
          case measure => simp [intOf]; omega
        · go_wp2_with (at_builtin; refine appendS _ rfl (.tmp 40) (.tmp 41) rfl wr.heap.size _ _ rfl (own_oneI _ _) _ _ _ _ rfl (HSU.out.ext ((Ext.refl _).alloc _)) (by simp; omega) (by simp) ?_; intro v4 w4 ho4 hg4 hloc; have HO4 := Lib.hid ho4; have HG4 := Lib.hid hg4; clear ho4 hg4 hloc)
          go_roundw
          case rel =>
            have hx4 : Ext wr w4 := Ext.grown ((Ext.refl _).alloc _) HG4.out (fun j hj => by have := row_eq hj; omega)
            refine ⟨k + 1, by omega, by go_num, ?_, ?_, HX.out.trans hx4⟩
            · rw [HT.out, HU1.out, if_neg hle, List.append_nil]
              exact OwnV.ext HS.out hx4
            · rw [HT.out, HB1.out, if_neg hle]
              have h5 := OwnI.less HO4.out hsz
              unfold litsT at h5 ⊢
              rw [List.map_append, List.reverse_append]
              exact h5
          case measure => simp [intOf]; omega
      · have hs := HS.out
        have hu := HU.out
        have hsu := HSU.out
        rw [take_len_of rfl hlt] at hs hu hsu
        obtain ⟨As, ns, cs, rfl⟩ := OwnV.form hs
        have hb := HB0.out.ext HX.out
        have d0 := hb.cell 0
        have d2 := hb.cell 2
        have q1 := hb.frozen 1
        have q2 := hb.frozen 2
        have hd1 := HBB.out.ext HX.out
        have g0 := hd1.cell 0
        have g1 := hd1.cell 1
        have g2 := hd1.cell 2
        have p0 := hd1.frozen 0
        have p1 := hd1.frozen 1
        have p2 := hd1.frozen 2
        have HS2 := Lib.hid hs
        have HU2 := Lib.hid hu
        have HD : Hid ((backT ⟨vars, rows, depth⟩ lev).rows = upTo rows (lev) ∧ backO ⟨vars, rows, depth⟩ lev = (litsT (beyond rows (lev))).reverse ∧ (backT ⟨vars, rows, depth⟩ lev).depth = if (lev) < depth then (lev) else depth) := by
          unfold Hid backT backO; dsimp only; rw [HC.out]; exact ⟨rfl, rfl, rfl⟩
        clear hs hu hsu hb hd1
        by_cases hdl : (lev) < depth
        · go_wp2
          refine bodyPost_ret (v := .tuple #[.agg #[.int .i64 vars, .slice As ns cs, .int .i64 (lev)], .slice Au nu cu]) (by simp [results, Try.results44, go_sem, *]) rfl ?_
          refine ⟨.slice As ns cs, .slice Au nu cu, by rw [HD.out.2.2, if_pos hdl], ?_, ?_, ?_⟩
          · rw [HD.out.1]
            have hne : ∀ k, (Value.slice As ns cs).ownBlock = some k → w.heap.size + 2 ≤ k := fun k e => (OwnV.blk HS2.out k e).1
            repeat refine OwnV.setCell ?_ (fun k e => by have := hne k e; simp; omega) _
            exact OwnV.less HS2.out (Nat.zero_le _)
          · rw [HD.out.2.1]
            refine OwnI.less (b := w.heap.size + 2) ?_ (by omega)
            have hne : ∀ k, (Value.slice Au nu cu).ownBlock = some k → w.heap.size + 2 ≤ k := fun k e => (HU2.out.blk k e).1
            repeat refine OwnI.setCell ?_ (fun k e => by have := hne k e; simp; omega) _
            exact HU2.out
          · repeat refine Ext.setCell ?_ (by simp) _
            exact HX0.out.trans HX.out
        · go_wp2
          refine bodyPost_ret (v := .tuple #[.agg #[.int .i64 vars, .slice As ns cs, .int .i64 depth], .slice Au nu cu]) (by simp [results, Try.results44, go_sem, *]) rfl ?_
          refine ⟨.slice As ns cs, .slice Au nu cu, by rw [HD.out.2.2, if_neg (by omega)], ?_, ?_, ?_⟩
          · rw [HD.out.1]
            have hne : ∀ k, (Value.slice As ns cs).ownBlock = some k → w.heap.size + 2 ≤ k := fun k e => (OwnV.blk HS2.out k e).1
            repeat refine OwnV.setCell ?_ (fun k e => by have := hne k e; simp; omega) _
            exact OwnV.less HS2.out (Nat.zero_le _)
          · rw [HD.out.2.1]
            refine OwnI.less (b := w.heap.size + 2) ?_ (by omega)
            have hne : ∀ k, (Value.slice Au nu cu).ownBlock = some k → w.heap.size + 2 ≤ k := fun k e => (HU2.out.blk k e).1
            repeat refine OwnI.setCell ?_ (fun k e => by have := hne k e; simp; omega) _
            exact HU2.out
          · repeat refine Ext.setCell ?_ (by simp) _
            exact HX0.out.trans HX.out
end Go.Proofs.Ytbkimfefbdfkbaa
