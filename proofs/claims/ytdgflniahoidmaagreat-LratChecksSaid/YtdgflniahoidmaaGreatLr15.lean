/- Layer 11 (lrat): show. -/
import Derived.Test.YtdgflniahoidmaaGreatLr12
import Derived.Test.YtdgflniahoidmaaGreatRat3
set_option maxRecDepth 100000
namespace Go.Proofs.YtdgflniahoidmaaGreat
open Go.RowKit Go.Shelf Go.Sort Go.Maps

theorem bsearch_c (w : World) (base : Nat) (v : Value) (ids : List Int) (x : Int) (h : OwnI w base v ids) (hs : ids.Pairwise (· ≤ ·)) (hn : ids.length ≤ 100000000) :
    Calls Tryz.prog 72 #[v, .int .i64 x] w fun e w' => e = .returned (.tuple #[.int .i64 (posV ids x), .bool (hasV ids x)]) ∧ Ext w w' := by
  have h0 : w.ownsRow base 3 1 v ids.length (ids.map (Value.int .i64)) := h
  have hc : hasV ids x = ids.contains x := by rw [Bool.eq_iff_iff, hasV_mem]; simp
  rcases h0.2 with ⟨rfl, hz⟩ | ⟨gb, cap, cur, rfl, hbase, hgb, r1, r2, r3, r4⟩
  · have hxs : ids = [] := List.eq_nil_of_length_eq_zero hz
    subst hxs
    refine (Tryz.slices_BinarySearch_int_empty none 0 x w).mono ?_
    rintro e w' ⟨rfl, rfl⟩
    exact ⟨rfl, Ext.refl _⟩
  · refine (Tryz.slices_BinarySearch_int gb 0 ids.length cap ids x w (Nat.le_refl _) (by omega) (fun j hj => ?_) (by rw [List.take_length]; exact hs)).mono ?_
    · have e1 := h0.cells (g := gb) rfl j (.int .i64 (ids.getD j 0)) (by rw [List.getElem?_map, List.getD_eq_getElem?_getD, List.getElem?_eq_getElem hj]; rfl)
      have e2 : (⟨gb, 0, none⟩ : Addr).add j = ⟨gb, 0 + j, none⟩ := by unfold Addr.add; split <;> simp_all
      rw [e2] at e1; exact e1
    · rintro e w' ⟨rfl, q, rfl⟩
      rw [List.take_length]
      refine ⟨?_, (Ext.refl w).drewN q⟩
      rw [hc]; rfl

/-- What the map tells of a candidate: nothing, or rows. -/
def EachAt (w0 w : World) : Option Value → Option (List (List Int)) → Prop
  | none, none => True
  | some u, some L => OwnR w0 w 0 u L ∧ L.length ≤ 1000000
  | _, _ => False
theorem EachAt.imp {w0 w w' : World} {o : Option Value} {q : Option (List (List Int))} (h : EachAt w0 w o q) (hk : ∀ u L, OwnR w0 w 0 u L → OwnR w0 w' 0 u L) : EachAt w0 w' o q := by
  cases o <;> cases q
  · trivial
  · exact h.elim
  · exact h.elim
  · exact ⟨hk _ _ h.1, h.2⟩
def EachM (w0 w : World) (b k : Nat) (F : Int → Option (List (List Int))) : Prop := ∃ f, MapV w b k f ∧ ∀ x, EachAt w0 w (f x) (F x)
theorem EachM.ext {w0 w w' : World} {b k : Nat} {F : Int → Option (List (List Int))} (h : EachM w0 w b k F) (hx : Ext w w') : EachM w0 w' b k F := by
  obtain ⟨f, h1, h2⟩ := h
  exact ⟨f, h1.ext hx, fun x => (h2 x).imp fun _ _ a => a.ext hx⟩
theorem OwnR.less {w0 w : World} {a base : Nat} {v : Value} {L : List (List Int)} (h : OwnR w0 w base v L) (ha : a ≤ base) : OwnR w0 w a v L := by
  obtain ⟨vs, h1, h2, h3⟩ := h
  exact ⟨vs, (show OwnV w base 42 1 v vs.length vs from h1).less ha, h2, h3⟩
theorem EachM.mapR {w0 w : World} {b k : Nat} {F : Int → Option (List (List Int))} (h : EachM w0 w b k F) (hx : Ext w0 w) : MapR w (.map (some b)) F := by
  obtain ⟨f, h1, h2⟩ := h
  refine ⟨f, fun W hW x hx => (h1.ext hW).look x hx, fun x => ?_⟩
  have := h2 x
  cases hf : f x <;> cases hF : F x <;> rw [hf, hF] at this
  · trivial
  · exact this.elim
  · exact this.elim
  · obtain ⟨A, n, c, e, hr, hc⟩ := this.1.sl hx (by have := this.2; omega)
    exact ⟨A, n, c, e, by have e1 := hr.1; have := this.2; omega, hr⟩
/-- One more. -/
theorem EachM.put {w0 w w2 : World} {b k : Nat} {F : Int → Option (List (List Int))} {f : Int → Option Value} {i : Int} {v : Value} {L : List (List Int)} (hm : MapV w b k f) (hr : ∀ x, EachAt w0 w (f x) (F x)) (hv : OwnR w0 w 0 v L) (hl : L.length ≤ 1000000)
    (hm2 : MapV w2 b (k + 1) (fun z => if z = i then some v else f z)) (hg : w.grownBy w2 (some b)) : EachM w0 w2 b (k + 1) (fun z => if z = i then some L else F z) := by
  have keep : ∀ u L, OwnR w0 w 0 u L → OwnR w0 w2 0 u L := fun u L h => h.kept hg (Or.inr (by
    obtain ⟨vs, h1, _⟩ := h
    exact Ne.symm (hm.ne_own h1)))
  refine ⟨_, hm2, fun x => ?_⟩
  dsimp only
  by_cases e : x = i
  · rw [if_pos e, if_pos e]; exact ⟨keep _ _ hv, hl⟩
  · rw [if_neg e, if_neg e]; exact (hr x).imp keep
end Go.Proofs.YtdgflniahoidmaaGreat

namespace Go.Proofs.YtdgflniahoidmaaGreat
open Go.RowKit Go.Shelf Go.Sort Go.Maps

theorem posV_bd (ids : List Int) (x : Int) : 0 ≤ posV ids x ∧ posV ids x ≤ ids.length := by
  unfold posV
  have := List.countP_le_length (p := fun y : Int => decide (y < x)) (l := ids)
  omega

/-- What note leaves. -/
def RetNote (w0 : World) (R : List (Int × List Int)) (F : Int → Option (List (List Int))) (g : List Int) (b2 k : Nat) (w : World) (e : Ending) (w' : World) : Prop :=
  e = .returned (.tuple #[]) ∧ EachM w0 w' b2 (k + 1) (each1 R F g) ∧ Stay (fun j => j = b2) w w'

/-- The slice without its first number. -/
theorem IntSl.rest {w : World} {ad : Addr} {n c : Nat} {y : Int} {t : List Int} (h : IntSl w (some ad) n (y :: t)) (hc : n ≤ c) : IntSl w (if c = 1 then some ad else some { block := ad.block, off := ad.off + 1 }) (n - 1) t := by
  have hl : t.length + 1 = n := h.1
  refine ⟨by omega, by have := h.2.1; omega, fun x hx => h.2.2.1 x (List.mem_cons_of_mem _ hx), fun hp => ?_⟩
  rw [if_neg (by omega)]
  refine ⟨_, rfl, fun j x hj => ?_⟩
  obtain ⟨ad', e, hcell⟩ := h.2.2.2 (by omega)
  cases e
  have e2 := hcell (j + 1) x (by simpa using hj)
  have e3 : ad.add (j + 1) = ({ block := ad.block, off := ad.off + 1 } : Addr).add j := by
    unfold Addr.add
    by_cases hj0 : j = 0
    · subst hj0; simp
    · simp [hj0]; omega
  rw [← e3]; exact e2

set_option maxHeartbeats 4000000 in
theorem note_c (ad : Addr) (n c : Nat) (y : Int) (t : List Int) (qi qo qe : Addr) (vi : Value) (base p b b2 k : Nat) (S : CSt) (F : Int → Option (List (List Int))) (w0 w : World)
    (h : IntSl w (some ad) n (y :: t)) (hm : CMem w0 p b S) (hx0 : Ext w0 w) (hi : Inv11 S) (hids : OwnI w base vi (idsR S.rows)) (hil : (idsR S.rows).length ≤ 100000000)
    (he : EachM w0 w b2 k F) (hk : k ≤ 100000000) (hsm : n ≤ 1000000) (hy : -1000000000 ≤ y ∧ y ≤ 1000000000) (hc : n ≤ c)
    (hqi : w.cell? qi = some vi) (hqo : w.cell? qo = some (.func (.func 68) #[.pointer (some ⟨p, 0, none⟩)] #[])) (hqe : w.cell? qe = some (.map (some b2))) :
    Calls Tryz.prog 71 #[.slice (some ad) n c, .pointer (some qi), .pointer (some qo), .pointer (some qe)] w (RetNote w0 S.rows F (y :: t) b2 k w) := by
  have HLN := Lib.hid h.1
  have hn0 : 0 < n := by rw [← HLN.out]; simp
  have hgi : (y :: t)[0]? = some y := rfl
  have HS := Lib.hid h
  have HI := Lib.hid hi
  have HM := Lib.hid hm
  have HX0 := Lib.hid hx0
  have HE := Lib.hid he
  have HIDS := Lib.hid hids
  have hso : (idsR S.rows).Pairwise (· ≤ ·) := List.Pairwise.imp (fun h => by omega) hi.rise
  have HSO := Lib.hid hso
  obtain ⟨hp1, hp2⟩ := posV_bd (idsR S.rows) (-y)
  have HEACH : Hid (each1 S.rows F (y :: t) = if hasV (idsR S.rows) (-y) then fun z => if z = posV (idsR S.rows) (-y) then some (rowsR S.rows t) else F z else F) := rfl
  have hcy : w.cell? ad = some (.int .i64 y) := by
    obtain ⟨ad', y', e, h1, h2, _⟩ := h.at_ (k := 0) hn0
    cases e
    have : y' = y := by have := h1.out; simp at this; exact this.symm
    subst this
    rwa [show ad.add 0 = ad by simp [Addr.add]] at h2
  obtain ⟨Ai, ni, ci, rfl⟩ := hids.form
  have hwrap : IntKind.i64.wrap (-y) = -y := by rw [IntKind.wrap_i64]; omega
  have HQO := Lib.hid hqo
  have HQE := Lib.hid hqe
  clear h hm hx0 hi hids he hso hqo hqe
  cases hok : hasV (idsR S.rows) (-y) with
  | false =>
    have HOK := Lib.hid hok
    have HR : Hid (each1 S.rows F (y :: t) = F) := by unfold Hid; rw [HEACH.out, hok, if_neg (by simp)]
    clear hok
    go_enter Tryz.func71, Tryz.ntmps71
    go_wp2
    go_region_law
      ((first
        | (go_simp; (with_reducible refine (bsearch_c _ base _ (idsR S.rows) (-y) (HIDS.out.ext (Ext.drew (Ext.refl w))) HSO.out hil).mono ?_); rintro e w4 ⟨rfl, hx4⟩; rw [HOK.out]; have HX4 : Hid (Ext w w4) := (Ext.drew (Ext.refl w)).trans hx4; clear hx4)))
    all_goals
      go_wp2
      first | go_end0 | go_ret
      refine ⟨rfl, ?_, Ext.stay HX4.out⟩
      rw [HR.out]
      obtain ⟨f, h1, h2⟩ := HE.out.ext HX4.out
      exact ⟨f, h1.mono (by omega), h2⟩
  | true =>
    have HOK := Lib.hid hok
    have HR : Hid (each1 S.rows F (y :: t) = fun z => if z = posV (idsR S.rows) (-y) then some (rowsR S.rows t) else F z) := by unfold Hid; rw [HEACH.out, hok, if_pos rfl]
    clear hok
    obtain ⟨f, hmv, hat⟩ := HE.out
    have HMV := Lib.hid hmv
    have HAT := Lib.hid hat
    clear hmv hat
    go_enter Tryz.func71, Tryz.ntmps71
    go_wp2
    go_region_law
      ((first
        | (go_simp; (with_reducible refine (bsearch_c _ base _ (idsR S.rows) (-y) (HIDS.out.ext (Ext.drew (Ext.refl w))) HSO.out hil).mono ?_); rintro e w4 ⟨rfl, hx4⟩; rw [HOK.out]; have HX4 : Hid (Ext w w4) := (Ext.drew (Ext.refl w)).trans hx4; clear hx4; have hqo4 := HX4.out.cell HQO.out; have hqe4 := HX4.out.cell HQE.out)))
    all_goals
      clear hqi hcy hwrap hgi
      generalize posV (idsR S.rows) (-y) = i at hp1 hp2 HR
      have hi9 : i ≤ 100000000 := by omega
      have hn1 : (1 : Int) ≤ (n : Int) := by omega
      have HRT := Lib.hid ((HS.out.rest hc).ext HX4.out.drew)
      have HIL := Lib.hid hil
      have HWX := Lib.hid (HX0.out.trans HX4.out.drew)
      clear hil
      go_wp2
      go_region_law
        ((first
          | (go_simp; (with_reducible refine (rows11_c _ _ _ t p b S w0 _ HRT.out HM.out HWX.out HI.out (by omega)).mono ?_); rintro e w5 ⟨v5, rfl, ho5, hx5⟩; have hqe5 := hx5.cell (show w4.drew.cell? qe = _ from hqe4); obtain ⟨w6, hrun6, hm6, hg6⟩ := (HMV.out.ext (HX4.out.drew.trans hx5)).set (by omega) i v5 (by omega); have HO5 := Lib.hid ho5; have HX5 := Lib.hid hx5; have HM6 := Lib.hid hm6; have HG6 := Lib.hid hg6; clear ho5 hx5 hm6 hg6)))
      all_goals
        clear hrun6 hqe5 hqo4 hqe4
        have hx45 := HX4.out.drew.trans HX5.out
        first | go_end0 | (go_wp2; go_end0) | (go_wp2; go_ret)
        refine ⟨rfl, ?_, (Ext.stay hx45).grown HG6.out (fun k e => by cases e; exact .inl rfl)⟩
        rw [HR.out]
        refine EachM.put (HMV.out.ext hx45) (fun x => (HAT.out x).imp fun _ _ a => a.ext hx45) (HO5.out.less (Nat.zero_le _)) ?_ HM6.out HG6.out
        rw [rowsR_len]
        have e := HLN.out
        simp at e
        omega
end Go.Proofs.YtdgflniahoidmaaGreat

namespace Go.Proofs.YtdgflniahoidmaaGreat
open Go.RowKit Go.Shelf Go.Sort Go.Maps

theorem run_makeMap_no {P : Program} (t : TypeId) (w : World) : (Instr.makeMap t none).run P w = .ok (.map (some w.heap.size)) (w.alloc (.map #[] 0)) := by
  simp [Instr.makeMap]
theorem Ext.then_stay {a w w' : World} {F : Nat → Prop} (h : Ext a w) (k : Stay F w w') (hF : ∀ b, F b → a.heap.size ≤ b) : Ext a w' := (Stay.ext_trans h k).ext hF
theorem eachF_snoc (R : List (Int × List Int)) (gs : List (List Int)) (g : List Int) : eachF R (gs ++ [g]) = each1 R (eachF R gs) g := by unfold eachF; rw [List.foldl_append]; rfl
theorem EachM.made (w0 w : World) : EachM w0 (w.alloc (.map #[] 0)) w.heap.size 0 fun _ => none := ⟨fun _ => none, MapV.made w, fun _ => trivial⟩
theorem ids_bd {S : CSt} (hi : Inv11 S) : ∀ x ∈ idsR S.rows, 1 ≤ x ∧ x ≤ 10000000 := by
  intro x hx
  obtain ⟨p, hp, rfl⟩ := List.mem_map.1 hx
  have := hi.ids p hp
  have := hi.low
  omega
theorem idsR_len (R : List (Int × List Int)) : (idsR R).length = R.length := by unfold idsR; rw [List.length_map]

set_option maxHeartbeats 8000000 in
theorem show_c (p b : Nat) (S : CSt) (A : Option Addr) (n c : Nat) (lits : List Int) (A' : Option Addr) (n' c' : Nat) (hints : List Int) (w : World) (hm : CMem w p b S) (hi : Inv11 S) (hrl : S.rows.length ≤ 100000) (h : IntSl w A n lits) (h' : IntSl w A' n' hints) (hsm : n ≤ 1000) (hsm' : n' ≤ 1000) (hh : HintsIn hints) :
    Calls Tryz.prog 46 #[.pointer (some ⟨p, 0, none⟩), .slice A n c, .slice A' n' c'] w fun e w' => e = .returned (.int .i64 (showR S.rows lits hints)) ∧ Ext w w' := by
  have HSH : Hid (showR S.rows lits hints = if showE lits (rowsR S.rows (splitV hints).1) ≠ 23 ∨ lits.length = 0 then showE lits (rowsR S.rows (splitV hints).1) else if (ratShow (rowsR S.rows (idsR S.rows)) lits (rowsR S.rows (splitV hints).1) (eachF S.rows (splitV hints).2)).2 ≠ 0 then 24 else 0) := rfl
  have HLN := Lib.hid h.1
  have HLN' := Lib.hid h'.1
  have HM := Lib.hid hm
  have HI := Lib.hid hi
  have HS := Lib.hid h
  have HS' := Lib.hid h'
  obtain ⟨l1, l2, l3⟩ := split_len hints
  rw [h'.1] at l1 l2 l3
  obtain ⟨p1, p2⟩ := split_parts hints
  have HL3 := Lib.hid l3
  have HP1 := Lib.hid p1
  have HP2 := Lib.hid p2
  have HHH := Lib.hid hh
  have HRL := Lib.hid hrl
  clear hm hi h h' l3 p1 p2 hh hrl
  obtain ⟨E, hE⟩ : ∃ E, showE lits (rowsR S.rows (splitV hints).1) = E := ⟨_, rfl⟩
  have HE := Lib.hid hE
  rw [hE] at HSH
  clear hE
  go_enter Tryz.func46, Tryz.ntmps46
  go_wp2_with fail
  refine (split_c _ _ _ hints _ HS'.out (by omega)).mono ?_
  rintro e w1 ⟨va, vg, us, rfl, hsp, hx1⟩
  obtain ⟨Aa, na, ca, rfl, hsa, hca⟩ := hsp.ahead.slc (by omega) (fun x hx => by have h1 := (HP1.out x hx).1; have := HHH.out x h1; omega)
  have hna : na ≤ 1000 := by have := hsa.1; omega
  have hul : us.length ≤ 1000 := by have := hsp.len; omega
  obtain ⟨Ag, cg, rfl, _, hcg⟩ := hsp.rows.sl (by omega)
  have HSP := Lib.hid hsp
  have HX1 := Lib.hid hx1
  have HSA := Lib.hid hsa
  have HAL := Lib.hid hsa.1
  clear hsp hx1 hsa
  go_wp2_with fail
  have HX2 : Hid (Ext w1 (w1.alloc (Obj.cells #[.func (.func 68) #[.pointer (some ⟨p, 0, none⟩)] #[]] 98))) := (Ext.refl w1).alloc _
  have HQ9 : Hid ((w1.alloc (Obj.cells #[.func (.func 68) #[.pointer (some ⟨p, 0, none⟩)] #[]] 98)).cell? ⟨w1.heap.size, 0, none⟩ = _) := cell_one w1 _ _
  refine (rows11_c _ _ _ _ p b S w _ (HSA.out.ext HX2.out) HM.out (HX1.out.trans HX2.out) HI.out (by omega)).mono ?_
  rintro e w3 ⟨v3, rfl, ho3, hx3⟩
  obtain ⟨Af, nf, cf, rfl, hsf, hcf⟩ := ho3.sl (HX1.out.trans (HX2.out.trans hx3)) (by rw [rowsR_len]; omega)
  have hnf : nf ≤ 1000 := by have := hsf.1; rw [rowsR_len] at this; omega
  have HSF := Lib.hid hsf
  have HX3 := Lib.hid (HX2.out.trans hx3)
  have HQ93 := Lib.hid (hx3.cell HQ9.out)
  clear ho3 hx3 hsf
  go_wp2_with fail
  refine (rupShow_c _ _ _ lits _ _ _ _ _ (HS.out.ext (HX1.out.trans HX3.out)) HSF.out (by omega) (by omega)).mono ?_
  rintro e w4 ⟨rfl, hx4⟩
  rw [HE.out]
  have HX4 := Lib.hid (HX3.out.trans hx4)
  have HQ94 := Lib.hid (hx4.cell HQ93.out)
  have HSF4 := Lib.hid (HSF.out.ext hx4)
  clear hx4 HSF HQ9 HQ93 HX2 HE
  by_cases h23 : E = 23
  · subst h23
    by_cases hn0 : n = 0
    · subst hn0
      have HR : Hid (showR S.rows lits hints = 23) := by unfold Hid; rw [HSH.out, if_pos (.inr HLN.out)]
      clear HSH
      go_wp2_with fail
      go_ret
      exact ⟨ret_int HR.out.symm, HX1.out.trans HX4.out⟩
    · have hn1 : 0 < n := by omega
      have HR : Hid (showR S.rows lits hints = if (ratShow (rowsR S.rows (idsR S.rows)) lits (rowsR S.rows (splitV hints).1) (eachF S.rows (splitV hints).2)).2 ≠ 0 then 24 else 0) := by unfold Hid; rw [HSH.out, if_neg (by have := HLN.out; rintro (e | e); exact e rfl; omega)]
      clear HSH
      have hmk := fun (W : World) => run_makeMap_no (P := Tryz.prog) 101 W
      go_wp2_with fail
      refine (ids_c _ p b S (HM.out.ext (HX1.out.trans HX4.out)) HI.out).mono ?_
      rintro e w5 ⟨v5, rfl, hv5, hx5⟩
      obtain ⟨A5, n5, c5, rfl⟩ := hv5.form
      have HV5 := Lib.hid hv5
      have HX5 := Lib.hid (HX4.out.trans hx5)
      have HQ95 := Lib.hid (hx5.cell HQ94.out)
      have HSF5 := Lib.hid (HSF4.out.ext hx5)
      clear hv5 hx5
      go_wp2_with fail
      have HX6 : Hid (Ext w5 (w5.alloc (Obj.cells #[.slice A5 n5 c5] 42))) := (Ext.refl w5).alloc _
      have HQ13 : Hid ((w5.alloc (Obj.cells #[.slice A5 n5 c5] 42)).cell? ⟨w5.heap.size, 0, none⟩ = some (.slice A5 n5 c5)) := cell_one w5 _ _
      have HSZ6 : Hid ((w5.alloc (Obj.cells #[.slice A5 n5 c5] 42)).heap.size = w5.heap.size + 1) := World.size_alloc _ _
      generalize hw6 : w5.alloc (Obj.cells #[.slice A5 n5 c5] 42) = w6 at HX6 HQ13 HSZ6 ⊢
      have HX65 := Lib.hid (HX5.out.trans HX6.out)
      have HE0 : Hid (EachM w ((w6.alloc (.map #[] 0)).alloc (Obj.cells #[.map (some (w5.heap.size + 1))] 101)) (w5.heap.size + 1) 0 (eachF S.rows ((splitV hints).2.take 0))) := by
        have := (EachM.made w w6).ext ((Ext.refl _).alloc (Obj.cells #[.map (some (w5.heap.size + 1))] 101))
        rw [HSZ6.out] at this
        exact this
      have HQ14 : Hid (((w6.alloc (.map #[] 0)).alloc (Obj.cells #[.map (some (w5.heap.size + 1))] 101)).cell? ⟨w5.heap.size + 1 + 1, 0, none⟩ = some (.map (some (w5.heap.size + 1)))) := by
        have := cell_one (w6.alloc (.map #[] 0)) (.map (some (w5.heap.size + 1))) 101
        rw [World.size_alloc, HSZ6.out] at this
        exact this
      have HX8 : Hid (Ext w6 ((w6.alloc (.map #[] 0)).alloc (Obj.cells #[.map (some (w5.heap.size + 1))] 101))) := ((Ext.refl _).alloc _).alloc _
      clear hw6
      go_loopw [50] (fun i wr => ∃ k : Nat, k ≤ us.length ∧ i = .int .i64 k ∧ EachM w wr (w5.heap.size + 1) k (eachF S.rows ((splitV hints).2.take k)) ∧ Ext w6 wr ∧ wr.cell? ⟨w5.heap.size + 1 + 1, 0, none⟩ = some (.map (some (w5.heap.size + 1)))) (fun i _ => us.length - (intOf i).toNat)
      case atStart => exact ⟨0, Nat.zero_le _, rfl, HE0.out, HX8.out, HQ14.out⟩
      case round =>
        obtain ⟨k, hk, rfl, he, hx, hqe⟩ := hrel
        have HER := Lib.hid he
        have HXR := Lib.hid hx
        have HQR := Lib.hid hqe
        clear he hx hqe
        by_cases hlt : k < us.length
        · have hu : us[k]? = some us[k] := List.getElem?_eq_getElem hlt
          have hlt2 : k < (splitV hints).2.length := by rw [← HSP.out.len]; exact hlt
          have hg : (splitV hints).2[k]? = some (splitV hints).2[k] := List.getElem?_eq_getElem hlt2
          have hmem := List.getElem_mem hlt2
          have HT := Lib.hid (take_succ_of hg)
          have hou := HSP.out.each k _ _ hu hg
          have hgl := HL3.out _ hmem
          obtain ⟨y, t, hgy, hy1, hy2, hy3⟩ := HP2.out _ hmem
          generalize (splitV hints).2[k] = gg at hou hgl hgy HT
          subst hgy
          obtain ⟨Au, nu, cu, eu, hsu, hcu⟩ := hou.slc (by omega) (fun x hx => by
            rcases List.mem_cons.1 hx with e | e
            · subst e; have := HHH.out x hy2; omega
            · have := HHH.out x (hy3 x e).1; omega)
          rw [eu] at hu
          obtain ⟨ad, rfl⟩ : ∃ ad, Au = some ad := by
            obtain ⟨ad, e, _⟩ := hsu.2.2.2 (by rw [← hsu.1]; simp)
            exact ⟨ad, e⟩
          have hnu : nu ≤ 1000 := by have := hsu.1; omega
          obtain ⟨gb, rfl⟩ : ∃ gb, Ag = some ⟨gb, 0, none⟩ := by
            rcases HSP.out.rows.2 with ⟨e, _⟩ | ⟨g, cap, cur, e, _⟩
            · injection e with _ e; omega
            · injection e with e; exact ⟨g, e⟩
          have hcell := (HX65.out.trans HXR.out).cell (HSP.out.rows.cell1 hu).1
          have hyb := HHH.out y hy2
          have HSU := Lib.hid (hsu.ext (HX65.out.trans HXR.out))
          clear hu hlt2 hg hmem hou hgl hy2 hy3 eu hsu
          go_wp2_with fail
          refine (note_c ad nu cu y t ⟨w5.heap.size, 0, none⟩ ⟨w1.heap.size, 0, none⟩ ⟨w5.heap.size + 1 + 1, 0, none⟩ (.slice A5 n5 c5) w4.heap.size p b (w5.heap.size + 1) k S _ w wr HSU.out HM.out (HX1.out.trans (HX65.out.trans HXR.out)) HI.out (HV5.out.ext (HX6.out.trans HXR.out)) (by rw [idsR_len]; have := HRL.out; omega) HER.out (by omega) (by omega) (by omega) hcu (HXR.out.cell HQ13.out) ((HX6.out.trans HXR.out).cell HQ95.out) HQR.out).mono ?_
          rintro e w9 ⟨rfl, he9, hst9⟩
          have HE9 : Hid (EachM w w9 (w5.heap.size + 1) (k + 1) (eachF S.rows ((splitV hints).2.take (k + 1)))) := by
            rw [HT.out, eachF_snoc]; exact he9
          have HX9 : Hid (Ext w6 w9) := HXR.out.then_stay hst9 (fun j e => by subst e; rw [HSZ6.out]; exact Nat.le_refl _)
          have HQ9 : Hid (w9.cell? ⟨w5.heap.size + 1 + 1, 0, none⟩ = some (.map (some (w5.heap.size + 1)))) := hst9.cell HQR.out (by show ¬ (w5.heap.size + 1 + 1 = w5.heap.size + 1); omega)
          clear he9 hst9 hcell
          go_wp2_with fail
          go_roundw
          case rel => exact ⟨k + 1, by omega, by go_num, HE9.out, HX9.out, HQ9.out⟩
          case measure => simp [intOf]; omega
        · have hkn : k = us.length := by omega
          subst hkn
          have HEF : Hid (EachM w wr (w5.heap.size + 1) us.length (eachF S.rows (splitV hints).2)) := by
            have := HER.out
            rw [List.take_of_length_le (by rw [HSP.out.len]; exact Nat.le_refl _)] at this
            exact this
          clear HER
          have HXW := Lib.hid (HX65.out.trans HXR.out)
          have hcq9 := (HX6.out.trans HXR.out).cell HQ95.out
          have hcq13 := HXR.out.cell HQ13.out
          have hcq14 := HQR.out
          have hidl : (idsR S.rows).length ≤ 100000 := by rw [idsR_len]; exact HRL.out
          obtain ⟨A6, n6, c6, e6, hs6, hc6⟩ := OwnI.slc (HV5.out.ext (HX6.out.trans HXR.out)) (by omega) (fun x hx => by have := ids_bd HI.out x hx; omega)
          cases e6
          have hn6 : n5 ≤ 100000 := by have := hs6.1; omega
          have HS6 := Lib.hid (hs6.ext (Ext.drew (Ext.refl wr)))
          have HXD := Lib.hid (HX1.out.trans (HXW.out.drew))
          have HIL := Lib.hid hidl
          clear hs6 hidl
          obtain ⟨⟨r1, r2⟩, hRS⟩ : ∃ RS, ratShow (rowsR S.rows (idsR S.rows)) lits (rowsR S.rows (splitV hints).1) (eachF S.rows (splitV hints).2) = RS := ⟨_, rfl⟩
          have HRS := Lib.hid hRS
          rw [hRS] at HR
          clear hRS
          go_wp2
          go_region_law
            ((first
              | (go_simp; (with_reducible refine (rows11_c _ _ _ (idsR S.rows) p b S w _ HS6.out HM.out HXD.out HI.out (by omega)).mono ?_); rintro e w10 ⟨v10, rfl, ho10, hx10⟩; obtain ⟨A10, n10, c10, rfl, hs10, hc10⟩ := ho10.sl (HXD.out.trans hx10) (by rw [rowsR_len, idsR_len]; have := HRL.out; omega); have hcq9b := hx10.cell (show wr.drew.cell? _ = _ from hcq9); have hcq13b := hx10.cell (show wr.drew.cell? _ = _ from hcq13); have hcq14b := hx10.cell (show wr.drew.cell? _ = _ from hcq14); have HX10 := Lib.hid hx10; have HS10 := Lib.hid hs10; have HD10 := Lib.hid (HXD.out.trans hx10); have hn10 : n10 ≤ 100000 := (by have e1 := hs10.1; rw [rowsR_len] at e1; have := HIL.out; omega); clear ho10 hx10 hs10)
              | (go_simp; (with_reducible refine (ratShow_c _ _ _ (rowsR S.rows (idsR S.rows)) _ _ _ lits _ _ _ (rowsR S.rows (splitV hints).1) _ (eachF S.rows (splitV hints).2) _ HS10.out (HS.out.ext HD10.out) (HSF5.out.ext ((HX6.out.trans HXR.out).drew.trans HX10.out)) ((HEF.out.ext ((Ext.drew (Ext.refl wr)).trans HX10.out)).mapR HD10.out) (by omega) (by omega) (by omega) (fun d hd => by have := (rowsR_wide HI.out _ d hd).1; omega)).mono ?_); rintro e w11 ⟨rfl, hx11⟩; rw [HRS.out]; have HX11 := Lib.hid (HD10.out.trans hx11); clear hx11)))
          all_goals
            by_cases hr2 : r2 = 0
            · subst hr2
              go_wp2
              go_ret
              exact ⟨ret_int (by rw [HR.out, if_neg (by simp)]), HX11.out⟩
            · have hb : (r2 == 0) = false := by simpa using hr2
              go_wp2
              go_ret
              exact ⟨ret_int (by rw [HR.out, if_pos hr2]), HX11.out⟩
  · have hb : (E == 23) = false := by simpa using h23
    have HR : Hid (showR S.rows lits hints = E) := by unfold Hid; rw [HSH.out, if_pos (.inl h23)]
    clear HSH h23
    go_wp2_with fail
    go_ret
    exact ⟨ret_int HR.out.symm, HX1.out.trans HX4.out⟩
end Go.Proofs.YtdgflniahoidmaaGreat
