/- The reference of layer 11: Step: a clause is added. -/
import Derived.Test.YtdgflniahoidmaaGreatLzG
import Derived.Deep.DeepCutAuto
set_option maxRecDepth 100000
namespace Go.Proofs.YtdgflniahoidmaaGreat
open Go.RowKit

theorem encN_one {us : List (Value × Value)} (h : ∀ u ∈ us, u.1.oneCell' = true ∧ u.2.oneCell' = true) : ∀ u ∈ us.flatMap encN, u.oneCell' = true := by
  intro u hu
  obtain ⟨p, hp, hq⟩ := List.mem_flatMap.1 hu
  simp only [encN, List.mem_cons, List.not_mem_nil, or_false] at hq
  rcases hq with rfl | rfl
  · exact (h p hp).1
  · exact (h p hp).2
/-- Numbered clauses as cells. -/
theorem RowsNO.cells {F : Nat → Prop} {w0 w : World} {A : Option Addr} {n : Nat} {R : List (Int × List Int)} (h : RowsNO F w0 w A n R) : ∃ us : List (Value × Value), SlV w A n 2 (us.flatMap encN) ∧ ReadN w0 us R ∧ ∀ u ∈ us.flatMap encN, u.oneCell' = true := by
  rcases Nat.eq_zero_or_pos n with h0 | h0
  · subst h0
    have : R = [] := List.eq_nil_of_length_eq_zero h.1
    subst this
    exact ⟨[], ⟨by simp, by decide, fun e => absurd e (by omega)⟩, ⟨rfl, fun j p hj => by simp at hj⟩, by simp⟩
  · obtain ⟨ad, rfl, _, hc⟩ := h.2.2 h0
    obtain ⟨us, hus⟩ : ∃ us : List (Value × Value), us = R.mapIdx fun j p => (.int .i64 p.1, (w.cell? ⟨(ad.add (j * 2)).block, (ad.add (j * 2)).off + 1, none⟩).getD undef) := ⟨_, rfl⟩
    have hget : ∀ (j : Nat) (p : Int × List Int), R[j]? = some p → ∃ A' n' c', us[j]? = some (.int .i64 p.1, .slice A' n' c') ∧ w.cell? (ad.add (j * 2)) = some (.int .i64 p.1) ∧ w.cell? ⟨(ad.add (j * 2)).block, (ad.add (j * 2)).off + 1, none⟩ = some (.slice A' n' c') ∧ IntSl w0 A' n' p.2 ∧ n' ≤ c' := fun j p hj => by
      obtain ⟨A', n', c', q1, q2, q3, q4⟩ := hc j p hj
      refine ⟨A', n', c', ?_, q1, q2, q3, q4⟩
      rw [hus, List.getElem?_mapIdx, hj]
      simp [q2]
    have hlen : us.length = R.length := by rw [hus, List.length_mapIdx]
    refine ⟨us, ⟨by rw [flat_len encN_len, hlen, h.1], h.2.1, fun _ => ⟨ad, rfl, fun j u hj => ?_⟩⟩, ⟨hlen, fun j p hj => let ⟨A', n', c', q0, _, _, q3, q4⟩ := hget j p hj; ⟨A', n', c', q0, q3, q4⟩⟩, encN_one fun u hu => ?_⟩
    · have hjl : j < us.length * 2 := by have := (List.getElem?_eq_some_iff.1 hj).1; rwa [flat_len encN_len] at this
      have hi : j / 2 < R.length := by omega
      obtain ⟨A', n', c', q0, q1, q2, _⟩ := hget (j / 2) _ (List.getElem?_eq_getElem hi)
      rcases Nat.mod_two_eq_zero_or_one j with hm | hm
      · have e : j = j / 2 * 2 + 0 := by omega
        rw [e, flat_get encN_len q0 (k := 0) (by decide)] at hj
        have : u = .int .i64 (R[j / 2]).1 := by simpa [encN] using hj.symm
        rw [e, Nat.add_zero, this]
        exact q1
      · have e : j = j / 2 * 2 + 1 := by omega
        rw [e, flat_get encN_len q0 (k := 1) (by decide)] at hj
        have : u = .slice A' n' c' := by simpa [encN] using hj.symm
        rw [e, add_posN, this]
        exact q2
    · obtain ⟨j, hj⟩ := List.getElem?_of_mem hu
      have hi : j < R.length := by have := (List.getElem?_eq_some_iff.1 hj).1; omega
      obtain ⟨A', n', c', q0, _⟩ := hget j _ (List.getElem?_eq_getElem hi)
      rw [q0] at hj
      cases hj
      exact ⟨rfl, rfl⟩
theorem own_blk0Z {w : World} {b g : Nat} {e : TypeId} (size : Nat) (hg : b ≤ g) (hB : Blk w g e #[]) : OwnV w b e size (.slice (some ⟨g, 0, none⟩) 0 0) 0 [] :=
  ⟨by simp, .inr ⟨g, 0, #[], rfl, hg, hB, Nat.le_refl _, Nat.zero_le _, by simp, by simp⟩⟩
theorem Blk.new2Z (W : World) (a : Obj) (t : TypeId) (cs : Array Value) : Blk ((W.alloc a).alloc (.cells cs t)) (W.heap.size + 1) t cs := by
  have := Blk.new (W.alloc a) t cs
  rwa [World.size_alloc] at this
theorem SlV.blkZ {w : World} {g : Nat} {t : TypeId} {cs : Array Value} (h : Blk w g t cs) : SlV w (some ⟨g, 0, none⟩) 1 cs.size cs.toList :=
  ⟨by simp, by decide, fun _ => ⟨_, rfl, fun j u hj => by
    have e : (⟨g, 0, none⟩ : Addr).add j = ⟨g, j, none⟩ := by unfold Addr.add; split <;> simp_all
    rw [e, h.cell]
    simpa using hj⟩⟩
theorem stepR_add {R : List (Int × List Int)} {last id : Int} {done d : Bool} {lits hints : List Int} {A1 A7 : Option Addr} {n n1 c1 n7 c7 b : Nat} {us : List (Value × Value)} {F : Nat → Prop} {w0 w w9 : World} (HR : stepE ⟨R, last, done⟩ ⟨1, id, lits, hints⟩ = 0) (hrd : ReadN w0 us R) (h1 : IntSl w0 A1 n1 lits) (hc1 : n1 ≤ c1) (hn : R.length = n) (hsm : n ≤ 100000)
    (ho : OwnV w9 b 62 2 (.slice A7 n7 c7) (0 + n + 1) ([] ++ us.flatMap encN ++ #[.int .i64 id, .slice A1 n1 c1].toList)) (hFb : ∀ j, F j → j < b) (hx : Ext w w9) (hd : (done || decide (n1 = 0)) = d) :
    RetStepZ F w0 ⟨R, last, done⟩ ⟨1, id, lits, hints⟩ w (.returned (.tuple #[.agg #[.slice A7 n7 c7, .int .i64 id, .bool d], .int .i64 0])) w9 := by
  have e : stepS ⟨R, last, done⟩ ⟨1, id, lits, hints⟩ = putR ⟨R, last, done⟩ id lits := by unfold stepS; rw [if_neg (by rw [HR]; decide), if_neg (by simp)]
  have ho2 : OwnN w0 w9 b (.slice A7 n7 c7) (R ++ [(id, lits)]) := OwnN.snoc (p := (id, lits)) hrd h1 hc1 (by rw [hn]; rw [Nat.zero_add, List.nil_append] at ho; exact ho)
  obtain ⟨A, m, c, e2, hr, hc⟩ := ho2.outside F hFb (by rw [List.length_append, hn]; simp; omega)
  cases e2
  refine ⟨_, _, _, id, d, by rw [HR], by rw [e]; exact hr, hc, by rw [e]; rfl, ?_, hx⟩
  rw [e, ← hd]
  show (done || decide (n1 = 0)) = (done || decide (lits.length = 0))
  rw [h1.1]
theorem Blk.drewZ {w : World} {g : Nat} {t : TypeId} {cs : Array Value} (h : Blk w g t cs) : Blk w.drew g t cs := h

set_option maxRecDepth 100000 in
set_option maxHeartbeats 16000000 in
theorem r11StepAdd_c (A : Option Addr) (n c : Nat) (R : List (Int × List Int)) (last : Int) (done : Bool) (A1 : Option Addr) (n1 c1 : Nat) (lits : List Int) (A2 : Option Addr) (n2 c2 : Nat) (hints : List Int) (id : Int) (F : Nat → Prop) (w0 w : World) (h : RowsNO F w0 w A n R) (hF : ∀ b, F b → b < w.heap.size) (hW : Ext w0 w) (hnc : n ≤ c) (hi : Inv11 ⟨R, last, done⟩) (hrl : n ≤ 100000) (h1 : IntSl w0 A1 n1 lits) (hc1 : n1 ≤ c1) (h2 : IntSl w0 A2 n2 hints) (hc2 : n2 ≤ c2) (hmay : mayV ⟨1, id, lits, hints⟩ = true) :
    Calls Tryz.prog 11 #[.agg #[.slice A n c, .int .i64 last, .bool done], .agg #[.int .i64 1, .int .i64 id, .slice A1 n1 c1, .slice A2 n2 c2]] w (RetStepZ F w0 ⟨R, last, done⟩ ⟨1, id, lits, hints⟩ w) := by
  have HY := Lib.hid hmay
  obtain ⟨hm1, hm2, hm3, hm4⟩ := may_add hmay rfl
  dsimp only at hm1 hm2 hm3 hm4
  have hls := (ccheck_lits (by decide) hm3).1
  rw [h1.1] at hls
  obtain ⟨hw1, hw2⟩ := within_in hm4 (by decide)
  rw [h2.1] at hw1
  have HW := Lib.hid hw2
  have HRA : Hid (stepE ⟨R, last, done⟩ ⟨1, id, lits, hints⟩ = if id ≤ last then 21 else if tautV lits then 11 else if thereV R hints = false then 20 else showR R lits hints) := by unfold Hid; rw [stepE_may hmay, if_neg (by simp)]; rfl
  clear hmay hw2 hm3 hm4
  have HB0 := Lib.hid (((Blk.new w 38 #[.slice A n c, .int .i64 last, .bool done]).alloc (Obj.cells #[.int .i64 1, .int .i64 id, .slice A1 n1 c1, .slice A2 n2 c2] 44)).alloc (Obj.cells #[.slice none 0 0, .int .i64 0, .bool false] 38))
  have HB1 := Lib.hid ((Blk.newg2 (w := w.alloc (Obj.cells #[.slice A n c, .int .i64 last, .bool done] 38)) (g := w.heap.size + 1) 44 #[.int .i64 1, .int .i64 id, .slice A1 n1 c1, .slice A2 n2 c2] (by simp)).alloc (Obj.cells #[.slice none 0 0, .int .i64 0, .bool false] 38))
  have HB2 := Lib.hid (Blk.newg2 (w := (w.alloc (Obj.cells #[.slice A n c, .int .i64 last, .bool done] 38)).alloc (Obj.cells #[.int .i64 1, .int .i64 id, .slice A1 n1 c1, .slice A2 n2 c2] 44)) (g := w.heap.size + 2) 38 #[.slice none 0 0, .int .i64 0, .bool false] (by simp))
  have HXA : Hid (Ext w (((w.alloc (Obj.cells #[.slice A n c, .int .i64 last, .bool done] 38)).alloc (Obj.cells #[.int .i64 1, .int .i64 id, .slice A1 n1 c1, .slice A2 n2 c2] 44)).alloc (Obj.cells #[.slice none 0 0, .int .i64 0, .bool false] 38))) := (((Ext.refl _).alloc _).alloc _).alloc _
  have HS := Lib.hid h
  have HSN := Lib.hid (h.toN hW)
  have HW0 := Lib.hid hW
  have HFF := Lib.hid hF
  have HI := Lib.hid hi
  have HZ1 := Lib.hid h1
  have HS1 := Lib.hid (h1.ext hW)
  have HS2 := Lib.hid (h2.ext hW)
  have HL1 : Hid (lits.length = n1) := h1.1
  have HL2 : Hid (hints.length = n2) := h2.1
  have HLN : Hid (R.length = n) := h.1
  have b0 := HB1.out.cell 0
  have b1 := HB1.out.cell 1
  have b2 := HB1.out.cell 2
  have b3 := HB1.out.cell 3
  clear h hi h1 h2 hW hF
  go_enter Tryz.func11, Tryz.ntmps11
  go_wp2_with fail
  have HXB := Lib.hid (HXA.out.alloc (Obj.cells #[.int .i64 1, .int .i64 id, .slice A1 n1 c1, .slice A2 n2 c2] 44))
  have hchk := r10Check_c 1 id lits hints A1 n1 c1 A2 n2 c2 (w.heap.size + 3) _ (Blk.newg2 (w := (((w.alloc (Obj.cells #[.slice A n c, .int .i64 last, .bool done] 38)).alloc (Obj.cells #[.int .i64 1, .int .i64 id, .slice A1 n1 c1, .slice A2 n2 c2] 44)).alloc (Obj.cells #[.slice none 0 0, .int .i64 0, .bool false] 38))) 44 #[.int .i64 1, .int .i64 id, .slice A1 n1 c1, .slice A2 n2 c2] (by simp)) (HS1.out.ext HXB.out) hc1 (HS2.out.ext HXB.out)
  refine hchk.mono ?_
  clear hchk
  rintro e w2 ⟨rfl, hx2⟩
  rw [HY.out]
  have HX2 := Lib.hid (HXB.out.trans hx2)
  have HC0 := Lib.hid ((HB0.out.alloc (Obj.cells #[.int .i64 1, .int .i64 id, .slice A1 n1 c1, .slice A2 n2 c2] 44)).ext hx2)
  have HC1 := Lib.hid ((HB1.out.alloc (Obj.cells #[.int .i64 1, .int .i64 id, .slice A1 n1 c1, .slice A2 n2 c2] 44)).ext hx2)
  have HC2 := Lib.hid ((HB2.out.alloc (Obj.cells #[.int .i64 1, .int .i64 id, .slice A1 n1 c1, .slice A2 n2 c2] 44)).ext hx2)
  clear hx2 b0 b1 b2 b3 HB0 HB1 HB2 HXA HXB
  have d0 := HC0.out.cell 0
  have d1 := HC0.out.cell 1
  have d2 := HC0.out.cell 2
  have s0 := HC1.out.cell 0
  have s1 := HC1.out.cell 1
  have s2 := HC1.out.cell 2
  have s3 := HC1.out.cell 3
  have r0 := HC2.out.cell 0
  have r1 := HC2.out.cell 1
  have r2 := HC2.out.cell 2
  have f0 := HC2.out.frozen 0
  have f1 := HC2.out.frozen 1
  have f2 := HC2.out.frozen 2
  by_cases hid : id ≤ last
  · have HR : Hid (stepE ⟨R, last, done⟩ ⟨1, id, lits, hints⟩ = 21) := by unfold Hid; rw [HRA.out, if_pos hid]
    clear HRA
    go_wp2_with fail
    have hs := ((HC2.out.set_ 0 (.slice A n c)).set_ 1 (.int .i64 last)).set_ 2 (.bool done)
    have t0 := hs.cell 0
    have t1 := hs.cell 1
    have t2 := hs.cell 2
    refine bodyPost_ret (v := .tuple #[.agg #[.slice A n c, .int .i64 last, .bool done], .int .i64 21]) (by simp [results, Tryz.results11, go_sem, t0, t1, t2]) rfl ?_
    have hx9 := ((HX2.out.setCell (p := ⟨w.heap.size + 2, 0, none⟩) (by show w.heap.size ≤ w.heap.size + 2; omega) (.slice A n c)).setCell (p := ⟨w.heap.size + 2, 1, none⟩) (by show w.heap.size ≤ w.heap.size + 2; omega) (.int .i64 last)).setCell (p := ⟨w.heap.size + 2, 2, none⟩) (by show w.heap.size ≤ w.heap.size + 2; omega) (.bool done)
    exact stepR_bad HR.out (by decide) HS.out hnc hx9
  · have hidb : ¬ id ≤ last := hid
    cases htau : tautV lits with
    | true =>
      have HTA := Lib.hid htau
      have HR : Hid (stepE ⟨R, last, done⟩ ⟨1, id, lits, hints⟩ = 11) := by unfold Hid; rw [HRA.out, if_neg hid, if_pos htau]
      clear HRA htau
      go_wp2_with fail
      refine (rTaut_c _ _ _ lits _ (HS1.out.ext HX2.out)).mono ?_
      rintro e w3 ⟨rfl, rfl⟩
      rw [HTA.out]
      go_wp2_with fail
      have hs := ((HC2.out.set_ 0 (.slice A n c)).set_ 1 (.int .i64 last)).set_ 2 (.bool done)
      have t0 := hs.cell 0
      have t1 := hs.cell 1
      have t2 := hs.cell 2
      refine bodyPost_ret (v := .tuple #[.agg #[.slice A n c, .int .i64 last, .bool done], .int .i64 11]) (by simp [results, Tryz.results11, go_sem, t0, t1, t2]) rfl ?_
      have hx9 := ((HX2.out.setCell (p := ⟨w.heap.size + 2, 0, none⟩) (by show w.heap.size ≤ w.heap.size + 2; omega) (.slice A n c)).setCell (p := ⟨w.heap.size + 2, 1, none⟩) (by show w.heap.size ≤ w.heap.size + 2; omega) (.int .i64 last)).setCell (p := ⟨w.heap.size + 2, 2, none⟩) (by show w.heap.size ≤ w.heap.size + 2; omega) (.bool done)
      exact stepR_bad HR.out (by decide) HS.out hnc hx9
    | false =>
      have HTA := Lib.hid htau
      have HRB : Hid (stepE ⟨R, last, done⟩ ⟨1, id, lits, hints⟩ = if thereV R hints = false then 20 else showR R lits hints) := by unfold Hid; rw [HRA.out, if_neg hid, htau, if_neg (by simp)]
      clear HRA htau
      go_wp2_with fail
      refine (rTaut_c _ _ _ lits _ (HS1.out.ext HX2.out)).mono ?_
      rintro e w3 ⟨rfl, rfl⟩
      rw [HTA.out]
      go_wp2_with fail
      refine (r11There_c _ _ _ R last done _ _ _ hints _ (HSN.out.ext HX2.out) (HS2.out.ext HX2.out) HW.out).mono ?_
      rintro e w3 ⟨rfl, hx3⟩
      have HX3 := Lib.hid (HX2.out.trans hx3)
      have HD0 := Lib.hid (HC0.out.ext hx3)
      have HD1 := Lib.hid (HC1.out.ext hx3)
      have HD2 := Lib.hid (HC2.out.ext hx3)
      clear hx3 d0 d1 d2 s0 s1 s2 s3 r0 r1 r2 f0 f1 f2
      have d0 := HD0.out.cell 0
      have d1 := HD0.out.cell 1
      have d2 := HD0.out.cell 2
      have s0 := HD1.out.cell 0
      have s1 := HD1.out.cell 1
      have s2 := HD1.out.cell 2
      have s3 := HD1.out.cell 3
      have r0 := HD2.out.cell 0
      have r1 := HD2.out.cell 1
      have r2 := HD2.out.cell 2
      have f0 := HD2.out.frozen 0
      have f1 := HD2.out.frozen 1
      have f2 := HD2.out.frozen 2
      cases hth : thereV R hints with
      | false =>
        have HR : Hid (stepE ⟨R, last, done⟩ ⟨1, id, lits, hints⟩ = 20) := by unfold Hid; rw [HRB.out, if_pos hth]
        clear HRB hth
        go_wp2_with fail
        have hs := ((HD2.out.set_ 0 (.slice A n c)).set_ 1 (.int .i64 last)).set_ 2 (.bool done)
        have t0 := hs.cell 0
        have t1 := hs.cell 1
        have t2 := hs.cell 2
        refine bodyPost_ret (v := .tuple #[.agg #[.slice A n c, .int .i64 last, .bool done], .int .i64 20]) (by simp [results, Tryz.results11, go_sem, t0, t1, t2]) rfl ?_
        have hx9 := ((HX3.out.setCell (p := ⟨w.heap.size + 2, 0, none⟩) (by show w.heap.size ≤ w.heap.size + 2; omega) (.slice A n c)).setCell (p := ⟨w.heap.size + 2, 1, none⟩) (by show w.heap.size ≤ w.heap.size + 2; omega) (.int .i64 last)).setCell (p := ⟨w.heap.size + 2, 2, none⟩) (by show w.heap.size ≤ w.heap.size + 2; omega) (.bool done)
        exact stepR_bad HR.out (by decide) HS.out hnc hx9
      | true =>
        have HRC : Hid (stepE ⟨R, last, done⟩ ⟨1, id, lits, hints⟩ = showR R lits hints) := by unfold Hid; rw [HRB.out, if_neg (by rw [hth]; decide)]
        clear HRB hth
        go_wp2_with fail
        refine (r11Show_c _ _ _ R last done _ _ _ lits _ _ _ hints 1 id _ (HSN.out.ext HX3.out) HI.out hrl (HS1.out.ext HX3.out) hc1 (HS2.out.ext HX3.out) hc2 hls hw1 HW.out).mono ?_
        rintro e w4 ⟨rfl, hx4⟩
        have HX4 := Lib.hid (HX3.out.trans hx4)
        have HE0 := Lib.hid (HD0.out.ext hx4)
        have HE1 := Lib.hid (HD1.out.ext hx4)
        have HE2 := Lib.hid (HD2.out.ext hx4)
        clear hx4 d0 d1 d2 s0 s1 s2 s3 r0 r1 r2 f0 f1 f2
        have d0 := HE0.out.cell 0
        have d1 := HE0.out.cell 1
        have d2 := HE0.out.cell 2
        have s0 := HE1.out.cell 0
        have s1 := HE1.out.cell 1
        have s2 := HE1.out.cell 2
        have s3 := HE1.out.cell 3
        have r0 := HE2.out.cell 0
        have r1 := HE2.out.cell 1
        have r2 := HE2.out.cell 2
        have f0 := HE2.out.frozen 0
        have f1 := HE2.out.frozen 1
        have f2 := HE2.out.frozen 2
        obtain ⟨E, hE⟩ : ∃ E, showR R lits hints = E := ⟨_, rfl⟩
        rw [hE] at HRC ⊢
        clear hE
        by_cases hE0 : E = 0
        · subst hE0
          obtain ⟨us, hsv, hrd, hone⟩ := HS.out.cells
          have HSV := Lib.hid hsv
          have HRD := Lib.hid hrd
          have HONE := Lib.hid hone
          have fz := HE0.out.frozen 0
          have fz1 := HE0.out.frozen 1
          have fz2 := HE0.out.frozen 2
          have HLT := Lib.hid HE2.out.lt
          have dd0 := fun o : Obj => (HE0.out.ext (((Ext.refl w4).alloc o).drew)).cell 0
          have ss1 := fun o : Obj => (HE1.out.ext (((Ext.refl w4).alloc o).drew)).cell 1
          have ss2 := fun o : Obj => (HE1.out.ext (((Ext.refl w4).alloc o).drew)).cell 2
          have dd0' := fun o o2 : Obj => (HE0.out.ext ((((Ext.refl w4).alloc o).alloc o2).drew)).cell 0
          have ss1' := fun o o2 : Obj => (HE1.out.ext ((((Ext.refl w4).alloc o).alloc o2).drew)).cell 1
          have ss2' := fun o o2 : Obj => (HE1.out.ext ((((Ext.refl w4).alloc o).alloc o2).drew)).cell 2
          clear hsv hrd hone
          go_wp2_with fail
          go_cut [68] (fun s wx => ∃ (A7 : Option Addr) (n7 c7 : Nat), s = .slice A7 n7 c7 ∧ Blk wx w.heap.size 38 #[.slice A7 n7 c7, .int .i64 last, .bool done] ∧ Blk wx (w.heap.size + 1) 44 #[.int .i64 1, .int .i64 id, .slice A1 n1 c1, .slice A2 n2 c2] ∧ Blk wx (w.heap.size + 2) 38 #[.slice none 0 0, .int .i64 0, .bool false] ∧ Ext w wx ∧ OwnV wx w4.heap.size 62 2 (.slice A7 n7 c7) (0 + n + 1) ([] ++ us.flatMap encN ++ #[.int .i64 id, .slice A1 n1 c1].toList))
          case first =>
           go_region_law
            ((first
              | (refine step_appendV eltN _ (by rfl) (.tmp 58) (.tmp 60) (by rfl) w4.heap.size _ 0 [] (by rfl) (by first | exact own_blk0Z 2 (Nat.le_refl _) (Blk.new _ _ _) | exact own_blk0Z 2 (by omega) (Blk.new2Z _ _ _ _) | exact own_blk0Z 2 (Nat.le_refl _) ((Blk.new _ _ _).alloc _)) _ _ _ (us.flatMap encN) (by rfl) (SlV.ext HSV.out (HX4.out.trans (show Ext w4 _ by (repeat (first | with_reducible exact Ext.refl _ | with_reducible apply Ext.alloc | with_reducible apply Ext.drew | with_reducible apply Ext.drewN | (apply Ext.trans'; assumption)))))) HONE.out (by omega) (by simp <;> omega) ?_; intro A6 n6 c6 w6 ho6 hg6 hloc; have hx6 : Ext w4 w6 := Ext.grown (show Ext w4 _ by (repeat (first | with_reducible exact Ext.refl _ | with_reducible apply Ext.alloc | with_reducible apply Ext.drew | with_reducible apply Ext.drewN | (apply Ext.trans'; assumption)))) hg6 (fun k e => by first | (have : w4.heap.size = k := Option.some.inj e; omega) | (have : w4.heap.size + 1 = k := Option.some.inj e; omega)); have e0 := (HE0.out.ext hx6).cell 0; have e1 := (HE1.out.ext hx6).cell 1; have e2 := (HE1.out.ext hx6).cell 2; have e0' := fun o : Obj => (HE0.out.ext (hx6.alloc o)).cell 0; have e1' := fun o : Obj => (HE1.out.ext (hx6.alloc o)).cell 1; have e2' := fun o : Obj => (HE1.out.ext (hx6.alloc o)).cell 2; (first | (have hent : Blk w6 (w4.heap.size + 1) 62 #[.int .i64 id, .slice A1 n1 c1] := (Blk.drewZ (Blk.new2Z w4 _ _ _)).grown hg6 (fun e => by have : w4.heap.size + 1 = w4.heap.size := Option.some.inj e; omega)) | (have hent : Blk w6 w4.heap.size 62 #[.int .i64 id, .slice A1 n1 c1] := (Blk.drewZ ((Blk.new w4 _ _).alloc _)).grown hg6 (fun e => by have : w4.heap.size = w4.heap.size + 1 := Option.some.inj e; omega)) | skip); have HX6 := Lib.hid hx6; have HO6 := Lib.hid ho6; clear hx6 ho6 hg6 hloc)
              | (refine step_appendV eltN _ (by rfl) (.tmp 61) (.tmp 67) (by rfl) w4.heap.size _ (0 + n) ([] ++ us.flatMap encN) (by rfl) (HO6.out.ext (show Ext w6 _ by (repeat (first | with_reducible exact Ext.refl _ | with_reducible apply Ext.alloc | with_reducible apply Ext.drew | with_reducible apply Ext.drewN | (apply Ext.trans'; assumption))))) _ _ _ #[.int .i64 id, .slice A1 n1 c1].toList (by rfl) (by first | exact SlV.new1N _ _ _ | exact SlV.blkZ (by assumption)) (by intro u hu; simp at hu; rcases hu with rfl | rfl <;> rfl) (by omega) (by have := HX6.out.size_le; first | exact this | (simp; omega)) ?_; intro A7 n7 c7 w7 ho7 hg7 hloc; have HX7 : Hid (Ext w4 w7) := Ext.grown (HX6.out.trans (show Ext w6 _ by (repeat (first | with_reducible exact Ext.refl _ | with_reducible apply Ext.alloc | with_reducible apply Ext.drew | with_reducible apply Ext.drewN | (apply Ext.trans'; assumption))))) hg7 (fun k e => (OwnV.blk HO6.out k e).1); have HB7 := Lib.hid (HE0.out.ext HX7.out); have l0 := HB7.out.cell 0; have lf := HB7.out.frozen 0; have HO7 := Lib.hid ho7; clear ho7 hg7 hloc)))
           all_goals
            clear dd0 ss1 ss2 dd0' ss1' ss2' fz fz1 fz2 l0 lf e0 e1 e2 e0' e1' e2' d0 d1 d2 s0 s1 s2 s3 r0 r1 r2 f0 f1 f2
            have hb8 : Blk (w7.setCell ⟨w.heap.size, 0, none⟩ (.slice A7 n7 c7)) w.heap.size 38 #[.slice A7 n7 c7, .int .i64 last, .bool done] := by have := HB7.out.set_ 0 (.slice A7 n7 c7); simpa using this
            have hs8 := (HE1.out.ext HX7.out).far (p := ⟨w.heap.size, 0, none⟩) (by show w.heap.size + 1 ≠ w.heap.size; omega) (.slice A7 n7 c7)
            have hr8 := (HE2.out.ext HX7.out).far (p := ⟨w.heap.size, 0, none⟩) (by show w.heap.size + 2 ≠ w.heap.size; omega) (.slice A7 n7 c7)
            have hx8 : Ext w (w7.setCell ⟨w.heap.size, 0, none⟩ (.slice A7 n7 c7)) := (HX4.out.trans HX7.out).setCell (by show w.heap.size ≤ w.heap.size; omega) _
            have ho8 := OwnV.stay HO7.out ((Stay.refl (fun b => b = w.heap.size) w7).setCell (p := ⟨w.heap.size, 0, none⟩) (.inl rfl) (.slice A7 n7 c7)) (fun k e e2 => by have := (OwnV.blk HO7.out k e).1; have := HLT.out; omega)
            go_wp2_with fail
            go_meet
            exact ⟨A7, n7, c7, rfl, hb8, hs8, hr8, hx8, ho8⟩
          case rest =>
            obtain ⟨A7, n7, c7, rfl, hb8, hs8, hr8, hx8, ho8⟩ := hcut
            clear dd0 ss1 ss2 dd0' ss1' ss2' fz fz1 fz2 d0 d1 d2 s0 s1 s2 s3 r0 r1 r2 f0 f1 f2
            generalize wc = wa at hb8 hs8 hr8 hx8 ho8 ⊢
            have hfin : ∀ d : Bool, (done || decide (n1 = 0)) = d → RetStepZ F w0 ⟨R, last, done⟩ ⟨1, id, lits, hints⟩ w (.returned (.tuple #[.agg #[.slice A7 n7 c7, .int .i64 id, .bool d], .int .i64 0])) (((((wa.setCell ⟨w.heap.size, 1, none⟩ (.int .i64 id)).setCell ⟨w.heap.size, 2, none⟩ (.bool d)).setCell ⟨w.heap.size + 2, 0, none⟩ (.slice A7 n7 c7)).setCell ⟨w.heap.size + 2, 1, none⟩ (.int .i64 id)).setCell ⟨w.heap.size + 2, 2, none⟩ (.bool d)) := fun d hd => by
              have hst := (((((Stay.refl (fun b => b = w.heap.size ∨ b = w.heap.size + 2) wa).setCell (p := ⟨w.heap.size, 1, none⟩) (.inl (.inl rfl)) (.int .i64 id)).setCell (p := ⟨w.heap.size, 2, none⟩) (.inl (.inl rfl)) (.bool d)).setCell (p := ⟨w.heap.size + 2, 0, none⟩) (.inl (.inr rfl)) (.slice A7 n7 c7)).setCell (p := ⟨w.heap.size + 2, 1, none⟩) (.inl (.inr rfl)) (.int .i64 id)).setCell (p := ⟨w.heap.size + 2, 2, none⟩) (.inl (.inr rfl)) (.bool d)
              refine stepR_add HRC.out HRD.out HZ1.out hc1 HLN.out hrl (OwnV.stay ho8 hst (fun k e e2 => ?_)) (fun j hj => by have := HFF.out j hj; have := HX4.out.size_le; omega) (hx8.then_stay hst (fun k e => ?_)) hd
              · have := (OwnV.blk ho8 k e).1; have := HLT.out; rcases e2 with e2 | e2 <;> omega
              · rcases e with e | e <;> omega
            have HFIN := Lib.hid hfin
            have z0 := hb8.cell 0
            have z1 := hb8.cell 1
            have z2 := hb8.cell 2
            have zf1 := hb8.frozen 1
            have zf2 := hb8.frozen 2
            have y1 := hs8.cell 1
            have y2 := hs8.cell 2
            have zz : ∀ x : Value, (wa.setCell ⟨w.heap.size, 1, none⟩ x).cell? ⟨w.heap.size + 1, 2, none⟩ = some (.slice A1 n1 c1) := fun x => (hs8.far (p := ⟨w.heap.size, 1, none⟩) (by show w.heap.size + 1 ≠ w.heap.size; omega) x).cell 2
            clear hfin hx8 ho8
            cases done with
            | true =>
              have h0 := trivial
              have hb9 := (hb8.set_ 1 (.int .i64 id)).set_ 2 (.bool true)
              have hr9 := (hr8.far (p := ⟨w.heap.size, 1, none⟩) (by show w.heap.size + 2 ≠ w.heap.size; omega) (.int .i64 id)).far (p := ⟨w.heap.size, 2, none⟩) (by show w.heap.size + 2 ≠ w.heap.size; omega) (.bool true)
              have HB9 := Lib.hid hb9
              have HR9 := Lib.hid hr9
              have HFN := Lib.hid (HFIN.out true rfl)
              clear hb9 hr9 hb8 hs8 hr8 h0
              have u0 := HB9.out.cell 0
              have u1 := HB9.out.cell 1
              have u2 := HB9.out.cell 2
              have v0 := HR9.out.cell 0
              have v1 := HR9.out.cell 1
              have v2 := HR9.out.cell 2
              have x0 := HR9.out.frozen 0
              have x1 := HR9.out.frozen 1
              have x2 := HR9.out.frozen 2
              go_wp2_with fail
              have hs := ((HR9.out.set_ 0 (.slice A7 n7 c7)).set_ 1 (.int .i64 id)).set_ 2 (.bool true)
              have t0 := hs.cell 0
              have t1 := hs.cell 1
              have t2 := hs.cell 2
              refine bodyPost_ret (v := .tuple #[.agg #[.slice A7 n7 c7, .int .i64 id, .bool true], .int .i64 0]) (by simp [results, Tryz.results11, go_sem, t0, t1, t2]) rfl ?_
              exact HFN.out
            | false =>
              by_cases h0 : n1 = 0
              · subst h0
                have h0 := trivial
                have hb9 := (hb8.set_ 1 (.int .i64 id)).set_ 2 (.bool true)
                have hr9 := (hr8.far (p := ⟨w.heap.size, 1, none⟩) (by show w.heap.size + 2 ≠ w.heap.size; omega) (.int .i64 id)).far (p := ⟨w.heap.size, 2, none⟩) (by show w.heap.size + 2 ≠ w.heap.size; omega) (.bool true)
                have HB9 := Lib.hid hb9
                have HR9 := Lib.hid hr9
                have HFN := Lib.hid (HFIN.out true rfl)
                clear hb9 hr9 hb8 hs8 hr8 h0
                have u0 := HB9.out.cell 0
                have u1 := HB9.out.cell 1
                have u2 := HB9.out.cell 2
                have v0 := HR9.out.cell 0
                have v1 := HR9.out.cell 1
                have v2 := HR9.out.cell 2
                have x0 := HR9.out.frozen 0
                have x1 := HR9.out.frozen 1
                have x2 := HR9.out.frozen 2
                go_wp2_with fail
                have hs := ((HR9.out.set_ 0 (.slice A7 n7 c7)).set_ 1 (.int .i64 id)).set_ 2 (.bool true)
                have t0 := hs.cell 0
                have t1 := hs.cell 1
                have t2 := hs.cell 2
                refine bodyPost_ret (v := .tuple #[.agg #[.slice A7 n7 c7, .int .i64 id, .bool true], .int .i64 0]) (by simp [results, Tryz.results11, go_sem, t0, t1, t2]) rfl ?_
                exact HFN.out
              · have h0b : ((n1 : Int) == 0) = false := by rw [beq_eq_false_iff_ne]; omega
                have hb9 := (hb8.set_ 1 (.int .i64 id)).set_ 2 (.bool false)
                have hr9 := (hr8.far (p := ⟨w.heap.size, 1, none⟩) (by show w.heap.size + 2 ≠ w.heap.size; omega) (.int .i64 id)).far (p := ⟨w.heap.size, 2, none⟩) (by show w.heap.size + 2 ≠ w.heap.size; omega) (.bool false)
                have HB9 := Lib.hid hb9
                have HR9 := Lib.hid hr9
                have HFN := Lib.hid (HFIN.out false (by simp [h0]))
                clear hb9 hr9 hb8 hs8 hr8 h0
                have u0 := HB9.out.cell 0
                have u1 := HB9.out.cell 1
                have u2 := HB9.out.cell 2
                have v0 := HR9.out.cell 0
                have v1 := HR9.out.cell 1
                have v2 := HR9.out.cell 2
                have x0 := HR9.out.frozen 0
                have x1 := HR9.out.frozen 1
                have x2 := HR9.out.frozen 2
                go_wp2_with fail
                have hs := ((HR9.out.set_ 0 (.slice A7 n7 c7)).set_ 1 (.int .i64 id)).set_ 2 (.bool false)
                have t0 := hs.cell 0
                have t1 := hs.cell 1
                have t2 := hs.cell 2
                refine bodyPost_ret (v := .tuple #[.agg #[.slice A7 n7 c7, .int .i64 id, .bool false], .int .i64 0]) (by simp [results, Tryz.results11, go_sem, t0, t1, t2]) rfl ?_
                exact HFN.out
        · have hEb : (E != 0) = true := by simpa using hE0
          have HR : Hid (stepE ⟨R, last, done⟩ ⟨1, id, lits, hints⟩ = E) := HRC
          go_wp2_with fail
          have hs := ((HE2.out.set_ 0 (.slice A n c)).set_ 1 (.int .i64 last)).set_ 2 (.bool done)
          have t0 := hs.cell 0
          have t1 := hs.cell 1
          have t2 := hs.cell 2
          refine bodyPost_ret (v := .tuple #[.agg #[.slice A n c, .int .i64 last, .bool done], .int .i64 E]) (by simp [results, Tryz.results11, go_sem, t0, t1, t2]) rfl ?_
          have hx9 := ((HX4.out.setCell (p := ⟨w.heap.size + 2, 0, none⟩) (by show w.heap.size ≤ w.heap.size + 2; omega) (.slice A n c)).setCell (p := ⟨w.heap.size + 2, 1, none⟩) (by show w.heap.size ≤ w.heap.size + 2; omega) (.int .i64 last)).setCell (p := ⟨w.heap.size + 2, 2, none⟩) (by show w.heap.size ≤ w.heap.size + 2; omega) (.bool done)
          exact stepR_bad HR.out hE0 HS.out hnc hx9
end Go.Proofs.YtdgflniahoidmaaGreat
