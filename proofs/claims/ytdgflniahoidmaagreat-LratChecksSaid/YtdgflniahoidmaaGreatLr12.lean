/- Layer 11 (lrat): rows. -/
import Derived.Test.YtdgflniahoidmaaGreatLr9
import Derived.Test.YtdgflniahoidmaaGreatGen
import Derived.Test.YtdgflniahoidmaaGreatOwnRows
import Derived.Test.YtdgflniahoidmaaGreatCnf4
set_option maxRecDepth 100000
namespace Go.Proofs.YtdgflniahoidmaaGreat
open Go.RowKit

theorem eltR : Elt 22 42 (.slice none 0 0) 1 24 := ⟨Tryz.underlying22, infoR, rfl, by decide, by decide⟩

/-- The hints ahead, and the groups: slices of its own, apart from each other. -/
structure SpU (w : World) (base : Nat) (va vg : Value) (us : List Value) (st : List Int × List (List Int)) : Prop where
  ahead : OwnI w base va st.1
  rows : OwnV w base 42 1 vg us.length us
  len : us.length = st.2.length
  each : ∀ (j : Nat) (u : Value) (xs : List Int), us[j]? = some u → st.2[j]? = some xs → OwnI w base u xs
  apartA : ∀ u ∈ us, Apart u va
  apart : us.Pairwise Apart

section
variable {w w1 w2 w' : World} {base : Nat} {va vg va' vg' : Value} {us : List Value} {st : List Int × List (List Int)}
theorem SpU.ext (h : SpU w base va vg us st) (hx : Ext w w') : SpU w' base va vg us st :=
  ⟨h.ahead.ext hx, h.rows.ext hx, h.len, fun j u xs e1 e2 => (h.each j u xs e1 e2).ext hx, h.apartA, h.apart⟩
theorem SpU.own (h : SpU w base va vg us st) {u : Value} (hu : u ∈ us) : ∃ xs, OwnI w base u xs := by
  obtain ⟨j, hj⟩ := List.mem_iff_getElem?.1 hu
  have hjl := (List.getElem?_eq_some_iff.1 hj).1
  exact ⟨_, h.each j u _ hj (List.getElem?_eq_getElem (by rw [← h.len]; exact hjl))⟩
theorem own_one (w : World) {x : Int} : OwnI (w.alloc (.cells #[.int .i64 x] 3)) w.heap.size (.slice (some ⟨w.heap.size, 0, none⟩) 1 1) [x] :=
  ⟨rfl, .inr ⟨w.heap.size, 1, #[.int .i64 x], rfl, Nat.le_refl _, heap_alloc_new w _, Nat.le_refl _, by unfold maxLen; omega, rfl, rfl⟩⟩
/-- A new group. -/
theorem SpU.group (h : SpU w base va vg us st) {x : Int} {o2 : Obj} (hbase : base ≤ w.heap.size)
    (hrow : OwnV w' base 42 1 vg' (us.length + 1) (us ++ [.slice (some ⟨w.heap.size, 0, none⟩) 1 1])) (hg : ((w.alloc (.cells #[.int .i64 x] 3)).alloc o2).grownBy w' vg.ownBlock) :
    SpU w' base va vg' (us ++ [.slice (some ⟨w.heap.size, 0, none⟩) 1 1]) (st.1, st.2 ++ [[x]]) := by
  have hx : Ext w ((w.alloc (.cells #[.int .i64 x] 3)).alloc o2) := ((Ext.refl w).alloc _).alloc _
  have h2 := h.ext hx
  have hnew : ∀ k, (Value.slice (some ⟨w.heap.size, 0, none⟩) 1 1).ownBlock = some k → k = w.heap.size := fun k e => (Option.some.inj e).symm
  have hlt : ∀ u, (∃ xs, OwnI w base u xs) → Apart u (.slice (some ⟨w.heap.size, 0, none⟩) 1 1) := fun u ⟨xs, hu⟩ => by
    cases e : u.ownBlock with
    | none => exact .inl e
    | some k =>
      refine .inr (.inr ?_)
      have := (hu.blk k e).2
      rw [e]
      intro e2
      have := hnew k e2.symm
      omega
  refine ⟨h2.ahead.kept hg (h2.ahead.ne_row h2.rows), by rw [List.length_append]; exact hrow, by simp [h.len], ?_, ?_, ?_⟩
  · intro j u xs e1 e2
    by_cases hj : j < us.length
    · rw [List.getElem?_append_left hj] at e1
      rw [List.getElem?_append_left (by rw [← h.len]; exact hj)] at e2
      have := h2.each j u xs e1 e2
      exact this.kept hg (this.ne_row h2.rows)
    · have hj2 : j - us.length = 0 := by have := (List.getElem?_eq_some_iff.1 e1).1; simp at this; omega
      rw [List.getElem?_append_right (by omega), hj2] at e1
      rw [List.getElem?_append_right (by rw [← h.len]; omega), ← h.len, hj2] at e2
      simp at e1 e2
      subst e1 e2
      have := ((own_one w (x := x)).less hbase).ext ((Ext.refl _).alloc o2)
      exact this.kept hg (this.ne_row h2.rows)
  · intro u hu
    rcases List.mem_append.1 hu with hu | hu
    · exact h.apartA u hu
    · rw [List.mem_singleton.1 hu]
      exact (hlt va ⟨_, h.ahead⟩).symm
  · rw [List.pairwise_append]
    refine ⟨h.apart, by simp, fun a ha b hb => ?_⟩
    rw [List.mem_singleton.1 hb]
    exact hlt a (h.own ha)
/-- One hint more ahead. -/
theorem SpU.first (h : SpU w base va vg us st) {x : Int} {o : Obj} (hz : us.length = 0) (hown : OwnI w' base va' (st.1 ++ [x])) (hg : (w.alloc o).grownBy w' va.ownBlock) : SpU w' base va' vg us (st.1 ++ [x], st.2) := by
  have h2 := h.ext ((Ext.refl w).alloc o)
  have e := List.eq_nil_of_length_eq_zero hz
  subst e
  refine ⟨hown, h2.rows.kept hg ?_, h.len, fun j u xs e1 _ => by simp at e1, fun u hu => by simp at hu, List.Pairwise.nil⟩
  rcases h2.rows.2 with ⟨rfl, _⟩ | ⟨g, cap, cur, rfl, _, hgg, _⟩
  · exact .inl rfl
  · exact .inr (fun e => h2.ahead.ne_blk (g := g) (t := 42) hgg (by decide) e.symm)
theorem OwnV.set1 {g cap n j : Nat} {e : TypeId} (h : OwnV w base e 1 (.slice (some ⟨g, 0, none⟩) n cap) n us) (u : Value) : OwnV (w.setCell ⟨g, j, none⟩ u) base e 1 (.slice (some ⟨g, 0, none⟩) n cap) n (us.set j u) := by
  refine ⟨by rw [List.length_set]; exact h.1, ?_⟩
  rcases h.2 with ⟨h0, _⟩ | ⟨g', cap', cur, e', hb, hg, hc, hm, hs, ht⟩
  · cases h0
  · injection e' with e1 e2 e3
    injection e1 with e1
    injection e1 with e1
    subst e1 e3
    refine .inr ⟨g, cap, _, rfl, hb, (show Blk w g e cur from hg).set_ j u, hc, hm, by rw [Array.size_setIfInBounds]; exact hs, ?_⟩
    rw [← ht, Array.toList_setIfInBounds, List.take_set]
/-- One hint more in the last group. -/
theorem SpU.last {g cap m : Nat} {u u' : Value} {xs : List Int} (h : SpU w base va (.slice (some ⟨g, 0, none⟩) us.length cap) us st) {x : Int} {o : Obj} (hm : us.length = m + 1) (hu : us[m]? = some u) (hxs : st.2[m]? = some xs)
    (hown : OwnI w' base u' (xs ++ [x])) (hg : (w.alloc o).grownBy w' u.ownBlock) (hloc : u'.ownBlock = u.ownBlock ∨ u'.ownBlock = some (w.alloc o).heap.size) :
    SpU (w'.setCell ⟨g, m, none⟩ u') base va (.slice (some ⟨g, 0, none⟩) us.length cap) (us.set m u') (st.1, st.2.set m (xs ++ [x])) := by
  have h2 := h.ext ((Ext.refl w).alloc o)
  have hou := h2.each m u xs hu hxs
  have hml : m < us.length := by omega
  have humem : u ∈ us := List.mem_of_getElem? hu
  have hrow := h2.rows.kept hg (by
    rcases hou.ne_row h2.rows with e | e
    · rw [e]; exact .inr (by simp [Value.ownBlock])
    · exact .inr (Ne.symm e))
  have hgn : ∀ {v : Value} {ys : List Int}, OwnI w' base v ys → ∀ k, v.ownBlock = some k → k ≠ g := fun hv k e e2 => by
    subst e2
    rcases hv.ne_row hrow with e3 | e3
    · rw [e] at e3; cases e3
    · exact e3 (e.trans rfl)
  have hset := hrow.set1 (j := m) u'
  have hlast : ∀ j v, j ≠ m → us[j]? = some v → Apart v u := fun j v hj hv => by
    have hjl := (List.getElem?_eq_some_iff.1 hv).1
    have hjm : j < m := by omega
    have hp := List.pairwise_iff_getElem.1 h.apart j m hjl hml hjm
    rw [(List.getElem?_eq_some_iff.1 hv).2, (List.getElem?_eq_some_iff.1 hu).2] at hp
    exact hp
  have hnew : ∀ v, (∃ ys, OwnI (w.alloc o) base v ys) → Apart v u → Apart v u' := fun v ⟨ys, hv⟩ ha => (ha.symm.grow hloc (fun k e => (hv.blk k e).2)).symm
  have hsetm : (us.set m u')[m]? = some u' := by rw [List.getElem?_set, if_pos rfl, if_pos hml]
  refine ⟨?_, ?_, by rw [List.length_set, List.length_set]; exact h.len, ?_, ?_, ?_⟩
  · have hk := h2.ahead.kept hg ((h.apartA u humem).symm.kept)
    exact hk.setCell (hgn hk) u'
  · rw [List.length_set]; exact hset
  · intro j v ys e1 e2
    by_cases hj : j = m
    · subst hj
      rw [hsetm] at e1
      rw [List.getElem?_set, if_pos rfl, if_pos (by rw [← h.len]; exact hml)] at e2
      cases e1; cases e2
      exact hown.setCell (hgn hown) u'
    · rw [List.getElem?_set, if_neg (Ne.symm hj)] at e1 e2
      have hk := (h2.each j v ys e1 e2).kept hg (hlast j v hj e1).kept
      exact hk.setCell (hgn hk) u'
  · intro v hv
    rcases List.mem_or_eq_of_mem_set hv with hv | rfl
    · exact h.apartA v hv
    · exact (hnew va ⟨_, h2.ahead⟩ (h.apartA u humem).symm).symm
  · refine List.pairwise_iff_getElem.2 fun i j hi hj hij => ?_
    rw [List.length_set] at hi hj
    rw [List.getElem_set, List.getElem_set]
    have him : i ≠ m := by omega
    rw [if_neg (Ne.symm him)]
    split
    · rename_i e
      subst e
      exact hnew _ (h2.own (List.getElem_mem _)) (List.pairwise_iff_getElem.1 h.apart i m hi hml hij |> fun hp => by rw [(List.getElem?_eq_some_iff.1 hu).2] at hp; exact hp)
    · exact List.pairwise_iff_getElem.1 h.apart i j hi hj hij
end

theorem split_len (hints : List Int) : (splitV hints).1.length ≤ hints.length ∧ (splitV hints).2.length ≤ hints.length ∧ ∀ g ∈ (splitV hints).2, g.length ≤ hints.length := by
  refine foldl_snoc_ind (P := fun hints => (splitV hints).1.length ≤ hints.length ∧ (splitV hints).2.length ≤ hints.length ∧ ∀ g ∈ (splitV hints).2, g.length ≤ hints.length) ⟨by simp [splitV], by simp [splitV], by simp [splitV]⟩ ?_ hints
  intro xs x ⟨i1, i2, i3⟩
  rw [splitV_snoc, List.length_append]
  unfold split1
  by_cases h : x < 0
  · rw [if_pos h]
    refine ⟨by dsimp only; omega, by simp; omega, fun g hg => ?_⟩
    rcases List.mem_append.1 hg with hg | hg
    · have := i3 g hg; omega
    · rw [List.mem_singleton.1 hg]; simp
  · rw [if_neg h]
    split
    · refine ⟨by simp; omega, by dsimp only; omega, fun g hg => ?_⟩
      have := i3 g hg; omega
    · refine ⟨by dsimp only; omega, by simp; omega, fun g hg => ?_⟩
      rcases List.mem_or_eq_of_mem_set hg with hg | rfl
      · have := i3 g hg; omega
      · have hk : (splitV xs).2.length - 1 < (splitV xs).2.length := by omega
        rw [List.getD_eq_getElem?_getD, List.getElem?_eq_getElem hk, List.length_append]
        have := i3 _ (List.getElem_mem hk)
        simp at this ⊢
        omega
end Go.Proofs.YtdgflniahoidmaaGreat

namespace Go.Proofs.YtdgflniahoidmaaGreat
open Go.RowKit

/-- What Split hands back. -/
def RetSplit (hints : List Int) (w : World) (e : Ending) (w' : World) : Prop :=
  ∃ va vg us, e = .returned (.tuple #[va, vg]) ∧ SpU w' w.heap.size va vg us (splitV hints) ∧ Ext w w'

theorem split1_neg {st : List Int × List (List Int)} {h : Int} (hn : h < 0) : split1 st h = (st.1, st.2 ++ [[h]]) := by unfold split1; rw [if_pos hn]
theorem split1_zero {st : List Int × List (List Int)} {h : Int} (hn : ¬ h < 0) (hz : st.2.length = 0) : split1 st h = (st.1 ++ [h], st.2) := by unfold split1; rw [if_neg hn, if_pos hz]
theorem split1_last {st : List Int × List (List Int)} {h : Int} {m : Nat} {xs : List Int} (hn : ¬ h < 0) (hz : st.2.length = m + 1) (hx : st.2[m]? = some xs) : split1 st h = (st.1, st.2.set m (xs ++ [h])) := by
  unfold split1
  rw [if_neg hn, if_neg (by omega), hz, Nat.add_sub_cancel, List.getD_eq_getElem?_getD, hx]; rfl

theorem OwnV.cell1 {w : World} {base g n cap j : Nat} {e : TypeId} {us : List Value} {u : Value} (h : OwnV w base e 1 (.slice (some ⟨g, 0, none⟩) n cap) n us) (hj : us[j]? = some u) : w.cell? ⟨g, j, none⟩ = some u ∧ w.frozen? ⟨g, j, none⟩ = false := by
  have h0 : w.ownsRow base e 1 (.slice (some ⟨g, 0, none⟩) n cap) n us := h
  refine ⟨?_, ?_⟩
  · have := h0.cells (g := g) rfl j _ hj
    have e2 : (⟨g, 0, none⟩ : Addr).add j = ⟨g, j, none⟩ := by unfold Addr.add; split <;> simp_all
    rw [e2] at this; exact this
  · rcases h.2 with ⟨e, _⟩ | ⟨g', cap', cur, e', hb, hg, _⟩
    · cases e
    · injection e' with e1
      injection e1 with e1
      injection e1 with e1
      subst e1
      exact (show Blk w g e cur from hg).frozen j
theorem SpU.lastCell {w w' : World} {base g cap m : Nat} {va u : Value} {us : List Value} {st : List Int × List (List Int)} {xs : List Int} {o : Obj} (h : SpU w base va (.slice (some ⟨g, 0, none⟩) us.length cap) us st) (hu : us[m]? = some u) (hou : OwnI w base u xs)
    (hg : (w.alloc o).grownBy w' u.ownBlock) : w'.cell? ⟨g, m, none⟩ = some u ∧ w'.frozen? ⟨g, m, none⟩ = false := by
  have h2 := h.ext ((Ext.refl w).alloc o)
  have hrow := h2.rows.kept hg (by
    rcases (hou.alloc o).ne_row h2.rows with e | e
    · rw [e]; exact .inr (by simp [Value.ownBlock])
    · exact .inr (Ne.symm e))
  exact hrow.cell1 hu

set_option maxHeartbeats 4000000 in
theorem split_c (A : Option Addr) (n c : Nat) (hints : List Int) (w : World) (h : IntSl w A n hints) (hsm : n ≤ 1000000) :
    Calls Tryz.prog 67 #[.slice A n c] w (RetSplit hints w) := by
  have HLN := Lib.hid h.1
  have HS := Lib.hid h
  clear h
  go_enter Tryz.func67, Tryz.ntmps67
  go_wp2_with fail
  go_loopw [2, 3, 9] (fun va vg i wr => ∃ (k : Nat) (us : List Value), k ≤ n ∧ i = .int .i64 k ∧ SpU wr w.heap.size va vg us (splitV (hints.take k)) ∧ Ext w wr) (fun _ _ i _ => n - (intOf i).toNat)
  case atStart => exact ⟨0, [], Nat.zero_le _, rfl, ⟨OwnI.nil _ _, OwnV.nil _ _ _ _, rfl, fun j u xs e1 _ => by simp at e1, fun u hu => by simp at hu, List.Pairwise.nil⟩, Ext.refl w⟩
  case round =>
    obtain ⟨k, us, hk, rfl, hsp, hx⟩ := hrel
    obtain ⟨l1, l2, _⟩ := split_len (hints.take k)
    rw [List.length_take] at l1 l2
    have hlen := hsp.len
    obtain ⟨Ag, cg, rfl, hsl, hncg⟩ := hsp.rows.sl (by omega)
    have hum : us.length ≤ 1000000 := by omega
    have HSP := Lib.hid hsp
    have HX := Lib.hid hx
    have HSZ := Lib.hid (Ext.size_le hx)
    have HUL := Lib.hid hlen
    have HL1 := Lib.hid l1
    clear hsp l1 l2 hlen
    by_cases hlt : k < n
    · obtain ⟨ad, x, rfl, hxk, hcx, hx1, hx2⟩ := (HS.out.ext HX.out).at_ hlt
      have HT := Lib.hid (take_succ_of hxk.out)
      have HXK := Lib.hid hxk
      clear hx hxk
      by_cases hneg : x < 0
      · clear hsl
        go_wp2_with (at_builtin; refine appendV eltR _ rfl _ _ rfl w.heap.size _ _ us rfl (OwnV.alloc (OwnV.alloc HSP.out.rows _) _) _ _ _ [.slice (some ⟨wr.heap.size, 0, none⟩) 1 1] rfl (SlV.one (fun j u hj => by cases j with | zero => simp at hj; subst hj; simp [Addr.add] | succ j => simp at hj) rfl) (by intro u hu; rw [List.mem_singleton.1 hu]; rfl) (by omega) (by have := HSZ.out; simp; omega) ?_; intro v' w2 ho2 hg2 _; have HN := Lib.hid (HSP.out.group HSZ.out ho2 hg2); have HX2 : Hid (Ext w w2) := Ext.grown ((HX.out.alloc _).alloc _) hg2 (fun j hj => (HSP.out.rows.blk j hj).1); clear ho2 hg2)
        go_roundw
        case rel => exact ⟨k + 1, _, by omega, by go_num, by rw [HT.out, splitV_snoc, split1_neg hneg]; exact HN.out, HX2.out⟩
        case measure => simp [intOf]; omega
      · by_cases hz : us.length = 0
        · clear hsl
          go_wp2_with (at_builtin; refine append1 _ rfl _ _ rfl w.heap.size _ _ rfl (HSP.out.ahead.alloc _) _ _ _ rfl (cell_one _ _ _) (by omega) (by have := HL1.out; omega) (by have := HSZ.out; simp; omega) ?_; intro v' w2 ho2 hg2 _; have HN := Lib.hid (HSP.out.first hz ho2 hg2); have HX2 : Hid (Ext w w2) := Ext.grown (HX.out.alloc _) hg2 (fun j hj => (HSP.out.ahead.blk j hj).1); clear ho2 hg2)
          go_roundw
          case rel => exact ⟨k + 1, us, by omega, by go_num, by rw [HT.out, splitV_snoc, split1_zero hneg (by rw [← HUL.out]; exact hz)]; have e := HN.out; rw [hz] at e; exact e, HX2.out⟩
          case measure => simp [intOf]; omega
        · obtain ⟨m, hm⟩ : ∃ m, us.length = m + 1 := ⟨us.length - 1, by omega⟩
          have hmu : m < us.length := by omega
          obtain ⟨g, rfl⟩ : ∃ g, Ag = some ⟨g, 0, none⟩ := by
            rcases HSP.out.rows.2 with ⟨e, _⟩ | ⟨g, cap, cur, e, _⟩
            · injection e with _ e; omega
            · injection e with e; exact ⟨g, e⟩
          have hxs : (splitV (hints.take k)).2[m]? = some ((splitV (hints.take k)).2[m]'(by rw [← HUL.out]; exact hmu)) := List.getElem?_eq_getElem _
          generalize (splitV (hints.take k)).2[m]'(by rw [← HUL.out]; exact hmu) = xs at hxs
          have hu : us[m]? = some us[m] := List.getElem?_eq_getElem hmu
          have hou := HSP.out.each m _ xs hu hxs
          obtain ⟨A5, n5, c5, e5⟩ := hou.form
          rw [e5] at hu hou
          have hxl : xs.length ≤ 1000000 := by
            have := (split_len (hints.take k)).2.2 xs (List.mem_of_getElem? hxs)
            rw [List.length_take] at this; omega
          obtain ⟨hc1, hf1⟩ := HSP.out.rows.cell1 hu
          have HOU := Lib.hid hou
          have HXL := Lib.hid hxl
          have HU := Lib.hid hu
          have HXS := Lib.hid hxs
          have HM := Lib.hid hm
          clear hou hxl hu hxs hsl e5
          have hmB : m ≤ 1000000 := by omega
          rw [hm]
          clear hm hmu hz hum
          go_wp2_with (at_builtin; refine append1 _ rfl _ _ rfl w.heap.size _ xs rfl (HOU.out.alloc _) _ _ _ rfl (cell_one _ _ _) (by omega) (by have := HXL.out; omega) (by have := HSZ.out; simp; omega) ?_; intro v' w2 ho2 hg2 hloc; obtain ⟨A6, n6, c6, rfl⟩ := ho2.form; have HN := Lib.hid (SpU.last HSP.out HM.out HU.out HXS.out ho2 hg2 hloc); have HX2 : Hid (Ext w w2) := Ext.grown (HX.out.alloc _) hg2 (fun j hj => (HOU.out.blk j hj).1); obtain ⟨hc2, hf2⟩ := SpU.lastCell HSP.out HU.out HOU.out hg2; clear ho2 hg2 hloc)
          go_roundw
          case rel =>
            refine ⟨k + 1, us.set m (.slice A6 n6 c6), by omega, by go_num, ?_, HX2.out.setCell (HSP.out.rows.blk g rfl).1 _⟩
            rw [HT.out, splitV_snoc, split1_last hneg (by rw [← HUL.out]; exact HM.out) HXS.out, ← HM.out]
            exact HN.out
          case measure => simp [intOf]; omega
    · clear hsl
      go_wp2_with fail
      go_ret2
      refine ⟨_, _, us, rfl, ?_, HX.out⟩
      have := HSP.out
      rw [List.take_of_length_le (by rw [HLN.out]; omega)] at this
      exact this
end Go.Proofs.YtdgflniahoidmaaGreat

namespace Go.Proofs.YtdgflniahoidmaaGreat
open Go.RowKit

/-- The rows hold what a checker may hold. -/
theorem rowsR_wide {S : CSt} (hi : Inv11 S) (ids : List Int) : ∀ d ∈ rowsR S.rows ids, d.length ≤ 1000 ∧ ∀ x ∈ d, -100000 ≤ x ∧ x ≤ 100000 := by
  intro d hd
  obtain ⟨i, _, rfl⟩ := List.mem_map.1 hd
  cases h : getR S.rows i with
  | none => exact ⟨by simp, fun x hx => by simp at hx⟩
  | some c => exact hi.wide _ (getR_mem h)
theorem rowsR_len (R : List (Int × List Int)) (ids : List Int) : (rowsR R ids).length = ids.length := by unfold rowsR; rw [List.length_map]
theorem rowsR_snoc (R : List (Int × List Int)) (ids : List Int) (i : Int) : rowsR R (ids ++ [i]) = rowsR R ids ++ [(getR R i).getD []] := by unfold rowsR; rw [List.map_append]; rfl

/-- What a look-up brings, then and later. -/
theorem MapC.later {w : World} {b : Nat} {n : Int} {R : List (Int × List Int)} (h : MapC w b n R) (hw : ∀ p ∈ R, p.2.length ≤ 1000 ∧ ∀ x ∈ p.2, -100000 ≤ x ∧ x ≤ 100000) (x : Int) (hx : -9223372036854775808 ≤ x ∧ x ≤ 9223372036854775807) :
    ∃ A m c, (∀ W, Ext w W → (Instr.lookup 56 (.map (some b)) (.int .i64 x) false).run Tryz.prog W = .ok (.slice A m c) W) ∧ IntSl w A m ((getR R x).getD []) ∧ m ≤ 1000 ∧ m ≤ c := by
  obtain ⟨k, f, _, h2, h3⟩ := h
  have hl : ∀ W, Ext w W → _ := fun W hW => (h2.ext hW).lookI x hx false
  have e := h3 x
  cases hf : f x <;> cases hR : getR R x <;> rw [hf, hR] at e
  · rw [hf] at hl
    exact ⟨none, 0, 0, hl, IntSl.nil w, by decide, by decide⟩
  · exact e.elim
  · exact e.elim
  · rename_i u xs
    have h45 : xs.length ≤ 1000 ∧ ∀ y ∈ xs, -100000 ≤ y ∧ y ≤ 100000 := hw _ (getR_mem hR)
    obtain ⟨h4, h5⟩ := h45
    obtain ⟨A, m, c, rfl, hs, hmc⟩ := OwnI.slc e (by omega) (fun y hy => by have := h5 y hy; omega)
    rw [hf] at hl
    exact ⟨A, m, c, hl, hs, by have e1 : xs.length = m := hs.1; omega, hmc⟩
theorem clauseL_c (w W : World) (p b : Nat) (S : CSt) (h : CMem w p b S) (hi : Inv11 S) (i : Int) (hx : -9223372036854775808 ≤ i ∧ i ≤ 9223372036854775807) (hW : Ext w W) :
    Calls Tryz.prog 68 #[.pointer (some ⟨p, 0, none⟩), .int .i64 i] W fun e w' => (∃ A m c, e = .returned (.slice A m c) ∧ IntSl w A m ((getR S.rows i).getD []) ∧ m ≤ 1000 ∧ m ≤ c) ∧ W = w' := by
  have c0 := (h.blk.ext hW).cell 0
  obtain ⟨A, m, c, hl, hs, hm, hmc⟩ := h.map.later hi.wide i hx
  have hl := hl W hW
  go_enter Tryz.func68, Tryz.ntmps68
  go_wp2
  go_ret
  exact ⟨⟨A, m, c, rfl, hs, hm, hmc⟩, rfl⟩

def RetRows11 (w0 : World) (R : List (Int × List Int)) (ids : List Int) (w : World) (e : Ending) (w' : World) : Prop := ∃ v, e = .returned v ∧ OwnR w0 w' w.heap.size v (rowsR R ids) ∧ Ext w w'

set_option maxHeartbeats 4000000 in
theorem rows11_c (A : Option Addr) (n c : Nat) (ids : List Int) (p b : Nat) (S : CSt) (w0 w : World) (h : IntSl w A n ids) (hm : CMem w0 p b S) (hx0 : Ext w0 w) (hi : Inv11 S) (hsm : n ≤ 100000000) :
    Calls Tryz.prog 69 #[.slice A n c, .func (.func 68) #[.pointer (some ⟨p, 0, none⟩)] #[]] w (RetRows11 w0 S.rows ids w) := by
  have HLN := Lib.hid h.1
  have HS := Lib.hid h
  have HM := Lib.hid hm
  have HI := Lib.hid hi
  have HX0 := Lib.hid hx0
  clear h hm hi hx0
  go_enter Tryz.func69, Tryz.ntmps69
  go_wp2_with fail
  go_loopw [5, 10] (fun v i wr => ∃ k : Nat, k ≤ n ∧ i = .int .i64 k ∧ OwnR w0 wr w.heap.size v (rowsR S.rows (ids.take k)) ∧ Ext w wr) (fun _ i _ => n - (intOf i).toNat)
  case atStart => exact ⟨0, Nat.zero_le _, rfl, OwnR.nil _ _ _, Ext.refl w⟩
  case round =>
    obtain ⟨k, hk, rfl, ho, hx⟩ := hrel
    have HO := Lib.hid ho
    have HX := Lib.hid hx
    have HSZ := Lib.hid (Ext.size_le hx)
    clear ho
    by_cases hlt : k < n
    · obtain ⟨ad, x, rfl, hxk, hcx, hx1, hx2⟩ := (HS.out.ext HX.out).at_ hlt
      have HT := Lib.hid (take_succ_of hxk.out)
      have HLK : Hid ((rowsR S.rows (ids.take k)).length = k) := by unfold Hid; rw [rowsR_len, List.length_take, HLN.out]; omega
      clear hx hxk
      go_wp2_with fail
      refine (clauseL_c w0 _ p b S HM.out HI.out x (by omega) (HX0.out.trans HX.out)).mono ?_
      rintro e w1 ⟨⟨A1, n1, c1, rfl, hs1, hn1, hc1⟩, rfl⟩
      have HS1 := Lib.hid hs1
      clear hs1
      go_wp2_with (at_builtin; refine appendR1 w0 _ rfl _ _ rfl w.heap.size _ (rowsR S.rows (ids.take k)) rfl (HO.out.alloc _) _ _ A1 n1 c1 ((getR S.rows x).getD []) rfl (cell_one _ _ _) HS1.out (by have := HLK.out; omega) (by have := HSZ.out; simp; omega) ?_; intro v' w2 ho2 hg2 _; have HO2 := Lib.hid ho2; have HX2 : Hid (Ext w w2) := Ext.grown (HX.out.alloc _) hg2 (fun j hj => (HO.out.blk j hj).1); clear ho2 hg2)
      go_roundw
      case rel => exact ⟨k + 1, by omega, by go_num, by rw [HT.out, rowsR_snoc]; exact HO2.out, HX2.out⟩
      case measure => simp [intOf]; omega
    · have HO2 : Hid (OwnR w0 wr w.heap.size u5 (rowsR S.rows ids)) := by
        have := HO.out
        rw [List.take_of_length_le (by rw [HLN.out]; omega)] at this
        exact this
      clear hx
      go_wp2_with fail
      go_ret
      exact ⟨_, rfl, HO2.out, HX.out⟩
end Go.Proofs.YtdgflniahoidmaaGreat
