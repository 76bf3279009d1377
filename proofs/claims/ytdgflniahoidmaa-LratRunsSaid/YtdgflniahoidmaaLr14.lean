/- Layer 11 (lrat): show's note, walked. -/
import Derived.Test.YtdgflniahoidmaaLr12
set_option maxRecDepth 100000
namespace Go.Proofs.Ytdgflniahoidmaa
open Go.RowKit Go.Shelf Go.Sort Go.Maps

theorem bsearch_c (w : World) (base : Nat) (v : Value) (ids : List Int) (x : Int) (h : OwnI w base v ids) (hs : ids.Pairwise (· ≤ ·)) (hn : ids.length ≤ 100000000) :
    Calls Try.prog 57 #[v, .int .i64 x] w fun e w' => e = .returned (.tuple #[.int .i64 (posV ids x), .bool (hasV ids x)]) ∧ Ext w w' := by
  have h0 : w.ownsRow base 3 1 v ids.length (ids.map (Value.int .i64)) := h
  have hc : hasV ids x = ids.contains x := by rw [Bool.eq_iff_iff, hasV_mem]; simp
  rcases h0.2 with ⟨rfl, hz⟩ | ⟨gb, cap, cur, rfl, hbase, hgb, r1, r2, r3, r4⟩
  · have hxs : ids = [] := List.eq_nil_of_length_eq_zero hz
    subst hxs
    refine (Try.slices_BinarySearch_int_empty none 0 x w).mono ?_
    rintro e w' ⟨rfl, rfl⟩
    exact ⟨rfl, Ext.refl _⟩
  · refine (Try.slices_BinarySearch_int gb 0 ids.length cap ids x w (Nat.le_refl _) (by omega) (fun j hj => ?_) (by rw [List.take_length]; exact hs)).mono ?_
    · have e1 := h0.cells (g := gb) rfl j (.int .i64 (ids.getD j 0)) (by rw [List.getElem?_map, List.getD_eq_getElem?_getD, List.getElem?_eq_getElem hj]; rfl)
      have e2 : (⟨gb, 0, none⟩ : Addr).add j = ⟨gb, 0 + j, none⟩ := by unfold Addr.add; split <;> simp_all
      rw [e2] at e1; exact e1
    · rintro e w' ⟨rfl, q, rfl⟩
      rw [List.take_length]
      refine ⟨?_, (Ext.refl w).drewN q⟩
      rw [hc]; rfl

/-- What the map tells of a candidate: nothing, or rows. -/
def EachAt (w0 w : World) : Option Value → Option (List (List Int)) → Prop
  | none, none => True
  | some u, some L => OwnR w0 w 0 u L ∧ L.length ≤ 1000000
  | _, _ => False
theorem EachAt.imp {w0 w w' : World} {o : Option Value} {q : Option (List (List Int))} (h : EachAt w0 w o q) (hk : ∀ u L, OwnR w0 w 0 u L → OwnR w0 w' 0 u L) : EachAt w0 w' o q := by
  cases o <;> cases q
  · trivial
  · exact h.elim
  · exact h.elim
  · exact ⟨hk _ _ h.1, h.2⟩
def EachM (w0 w : World) (b k : Nat) (F : Int → Option (List (List Int))) : Prop := ∃ f, MapV w b k f ∧ ∀ x, EachAt w0 w (f x) (F x)
theorem EachM.ext {w0 w w' : World} {b k : Nat} {F : Int → Option (List (List Int))} (h : EachM w0 w b k F) (hx : Ext w w') : EachM w0 w' b k F := by
  obtain ⟨f, h1, h2⟩ := h
  exact ⟨f, h1.ext hx, fun x => (h2 x).imp fun _ _ a => a.ext hx⟩
theorem OwnR.less {w0 w : World} {a base : Nat} {v : Value} {L : List (List Int)} (h : OwnR w0 w base v L) (ha : a ≤ base) : OwnR w0 w a v L := by
  obtain ⟨vs, h1, h2, h3⟩ := h
  exact ⟨vs, (show OwnV w base 40 1 v vs.length vs from h1).less ha, h2, h3⟩
theorem EachM.mapR {w0 w : World} {b k : Nat} {F : Int → Option (List (List Int))} (h : EachM w0 w b k F) (hx : Ext w0 w) : MapR w (.map (some b)) F := by
  obtain ⟨f, h1, h2⟩ := h
  refine ⟨f, fun W hW x hx => (h1.ext hW).look x hx, fun x => ?_⟩
  have := h2 x
  cases hf : f x <;> cases hF : F x <;> rw [hf, hF] at this
  · trivial
  · exact this.elim
  · exact this.elim
  · obtain ⟨A, n, c, e, hr, hc⟩ := this.1.sl hx (by have := this.2; omega)
    exact ⟨A, n, c, e, by have e1 := hr.1; have := this.2; omega, hr⟩
/-- One more. -/
theorem EachM.put {w0 w w2 : World} {b k : Nat} {F : Int → Option (List (List Int))} {f : Int → Option Value} {i : Int} {v : Value} {L : List (List Int)} (hm : MapV w b k f) (hr : ∀ x, EachAt w0 w (f x) (F x)) (hv : OwnR w0 w 0 v L) (hl : L.length ≤ 1000000)
    (hm2 : MapV w2 b (k + 1) (fun z => if z = i then some v else f z)) (hg : w.grownBy w2 (some b)) : EachM w0 w2 b (k + 1) (fun z => if z = i then some L else F z) := by
  have keep : ∀ u L, OwnR w0 w 0 u L → OwnR w0 w2 0 u L := fun u L h => h.kept hg (Or.inr (by
    obtain ⟨vs, h1, _⟩ := h
    exact Ne.symm (hm.ne_own h1)))
  refine ⟨_, hm2, fun x => ?_⟩
  dsimp only
  by_cases e : x = i
  · rw [if_pos e, if_pos e]; exact ⟨keep _ _ hv, hl⟩
  · rw [if_neg e, if_neg e]; exact (hr x).imp keep
end Go.Proofs.Ytdgflniahoidmaa

namespace Go.Proofs.Ytdgflniahoidmaa
open Go.RowKit Go.Shelf Go.Sort Go.Maps

theorem posV_bd (ids : List Int) (x : Int) : 0 ≤ posV ids x ∧ posV ids x ≤ ids.length := by
  unfold posV
  have := List.countP_le_length (p := fun y : Int => decide (y < x)) (l := ids)
  omega

/-- What note leaves. -/
def RetNote (w0 : World) (R : List (Int × List Int)) (F : Int → Option (List (List Int))) (g : List Int) (b2 k : Nat) (w : World) (e : Ending) (w' : World) : Prop :=
  e = .returned (.tuple #[]) ∧ EachM w0 w' b2 (k + 1) (each1 R F g) ∧ Stay (fun j => j = b2) w w'

/-- The slice without its first number. -/
theorem IntSl.rest {w : World} {ad : Addr} {n c : Nat} {y : Int} {t : List Int} (h : IntSl w (some ad) n (y :: t)) (hc : n ≤ c) : IntSl w (if c = 1 then some ad else some { block := ad.block, off := ad.off + 1 }) (n - 1) t := by
  have hl : t.length + 1 = n := h.1
  refine ⟨by omega, by have := h.2.1; omega, fun x hx => h.2.2.1 x (List.mem_cons_of_mem _ hx), fun hp => ?_⟩
  rw [if_neg (by omega)]
  refine ⟨_, rfl, fun j x hj => ?_⟩
  obtain ⟨ad', e, hcell⟩ := h.2.2.2 (by omega)
  cases e
  have e2 := hcell (j + 1) x (by simpa using hj)
  have e3 : ad.add (j + 1) = ({ block := ad.block, off := ad.off + 1 } : Addr).add j := by
    unfold Addr.add
    by_cases hj0 : j = 0
    · subst hj0; simp
    · simp [hj0]; omega
  rw [← e3]; exact e2

set_option maxHeartbeats 4000000 in
theorem note_c (ad : Addr) (n c : Nat) (y : Int) (t : List Int) (qi qo qe : Addr) (vi : Value) (base p b b2 k : Nat) (S : CSt) (F : Int → Option (List (List Int))) (w0 w : World)
    (h : IntSl w (some ad) n (y :: t)) (hm : CMem w0 p b S) (hx0 : Ext w0 w) (hi : Inv11 S) (hids : OwnI w base vi (idsR S.rows)) (hil : (idsR S.rows).length ≤ 100000000)
    (he : EachM w0 w b2 k F) (hk : k ≤ 100000000) (hsm : n ≤ 1000000) (hy : -1000000000 ≤ y ∧ y ≤ 1000000000) (hc : n ≤ c)
    (hqi : w.cell? qi = some vi) (hqo : w.cell? qo = some (.func (.func 53) #[.pointer (some ⟨p, 0, none⟩)] #[])) (hqe : w.cell? qe = some (.map (some b2))) :
    Calls Try.prog 56 #[.slice (some ad) n c, .pointer (some qi), .pointer (some qo), .pointer (some qe)] w (RetNote w0 S.rows F (y :: t) b2 k w) := by
  have HLN := Lib.hid h.1
  have hn0 : 0 < n := by rw [← HLN.out]; simp
  have hgi : (y :: t)[0]? = some y := rfl
  have HS := Lib.hid h
  have HI := Lib.hid hi
  have HM := Lib.hid hm
  have HX0 := Lib.hid hx0
  have HE := Lib.hid he
  have HIDS := Lib.hid hids
  have hso : (idsR S.rows).Pairwise (· ≤ ·) := List.Pairwise.imp (fun h => by omega) hi.rise
  have HSO := Lib.hid hso
  obtain ⟨hp1, hp2⟩ := posV_bd (idsR S.rows) (-y)
  have HEACH : Hid (each1 S.rows F (y :: t) = if hasV (idsR S.rows) (-y) then fun z => if z = posV (idsR S.rows) (-y) then some (rowsR S.rows t) else F z else F) := rfl
  have hcy : w.cell? ad = some (.int .i64 y) := by
    obtain ⟨ad', y', e, h1, h2, _⟩ := h.at_ (k := 0) hn0
    cases e
    have : y' = y := by have := h1.out; simp at this; exact this.symm
    subst this
    rwa [show ad.add 0 = ad by simp [Addr.add]] at h2
  obtain ⟨Ai, ni, ci, rfl⟩ := hids.form
  have hwrap : IntKind.i64.wrap (-y) = -y := by rw [IntKind.wrap_i64]; omega
  have HQO := Lib.hid hqo
  have HQE := Lib.hid hqe
  clear h hm hx0 hi hids he hso hqo hqe
  cases hok : hasV (idsR S.rows) (-y) with
  | false =>
    have HOK := Lib.hid hok
    have HR : Hid (each1 S.rows F (y :: t) = F) := by unfold Hid; rw [HEACH.out, hok, if_neg (by simp)]
    clear hok
    go_enter Try.func56, Try.ntmps56
    go_wp2
    go_region_law
      ((first
        | (go_simp; (with_reducible refine (bsearch_c _ base _ (idsR S.rows) (-y) (HIDS.out.ext (Ext.drew (Ext.refl w))) HSO.out hil).mono ?_); rintro e w4 ⟨rfl, hx4⟩; rw [HOK.out]; have HX4 : Hid (Ext w w4) := (Ext.drew (Ext.refl w)).trans hx4; clear hx4)))
    all_goals
      go_wp2
      first | go_end0 | go_ret
      refine ⟨rfl, ?_, Ext.stay HX4.out⟩
      rw [HR.out]
      obtain ⟨f, h1, h2⟩ := HE.out.ext HX4.out
      exact ⟨f, h1.mono (by omega), h2⟩
  | true =>
    have HOK := Lib.hid hok
    have HR : Hid (each1 S.rows F (y :: t) = fun z => if z = posV (idsR S.rows) (-y) then some (rowsR S.rows t) else F z) := by unfold Hid; rw [HEACH.out, hok, if_pos rfl]
    clear hok
    obtain ⟨f, hmv, hat⟩ := HE.out
    have HMV := Lib.hid hmv
    have HAT := Lib.hid hat
    clear hmv hat
    go_enter Try.func56, Try.ntmps56
    go_wp2
    go_region_law
      ((first
        | (go_simp; (with_reducible refine (bsearch_c _ base _ (idsR S.rows) (-y) (HIDS.out.ext (Ext.drew (Ext.refl w))) HSO.out hil).mono ?_); rintro e w4 ⟨rfl, hx4⟩; rw [HOK.out]; have HX4 : Hid (Ext w w4) := (Ext.drew (Ext.refl w)).trans hx4; clear hx4; have hqo4 := HX4.out.cell HQO.out; have hqe4 := HX4.out.cell HQE.out)))
    all_goals
      clear hqi hcy hwrap hgi
      generalize posV (idsR S.rows) (-y) = i at hp1 hp2 HR
      have hi9 : i ≤ 100000000 := by omega
      have hn1 : (1 : Int) ≤ (n : Int) := by omega
      have HRT := Lib.hid ((HS.out.rest hc).ext HX4.out.drew)
      have HIL := Lib.hid hil
      have HWX := Lib.hid (HX0.out.trans HX4.out.drew)
      clear hil
      go_wp2
      go_region_law
        ((first
          | (go_simp; (with_reducible refine (rows11_c _ _ _ t p b S w0 _ HRT.out HM.out HWX.out HI.out (by omega)).mono ?_); rintro e w5 ⟨v5, rfl, ho5, hx5⟩; have hqe5 := hx5.cell (show w4.drew.cell? qe = _ from hqe4); obtain ⟨w6, hrun6, hm6, hg6⟩ := (HMV.out.ext (HX4.out.drew.trans hx5)).set (by omega) i v5 (by omega); have HO5 := Lib.hid ho5; have HX5 := Lib.hid hx5; have HM6 := Lib.hid hm6; have HG6 := Lib.hid hg6; clear ho5 hx5 hm6 hg6)))
      all_goals
        clear hrun6 hqe5 hqo4 hqe4
        have hx45 := HX4.out.drew.trans HX5.out
        first | go_end0 | (go_wp2; go_end0) | (go_wp2; go_ret)
        refine ⟨rfl, ?_, (Ext.stay hx45).grown HG6.out (fun k e => by cases e; exact .inl rfl)⟩
        rw [HR.out]
        refine EachM.put (HMV.out.ext hx45) (fun x => (HAT.out x).imp fun _ _ a => a.ext hx45) (HO5.out.less (Nat.zero_le _)) ?_ HM6.out HG6.out
        rw [rowsR_len]
        have e := HLN.out
        simp at e
        omega
end Go.Proofs.Ytdgflniahoidmaa
