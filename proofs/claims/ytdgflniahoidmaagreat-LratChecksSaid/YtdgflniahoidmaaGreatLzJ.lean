/- The reference of layer 11: Check; SameIds. -/
import Derived.Test.YtdgflniahoidmaaGreatLzH
import Derived.Test.YtdgflniahoidmaaGreatOpenSt
set_option maxRecDepth 100000
namespace Go.Proofs.YtdgflniahoidmaaGreat
open Go.RowKit Go.WideShapes Go.ChangeShapes Go.ChangeAt Go.Deep

theorem r11Step_c (A : Option Addr) (n c : Nat) (R : List (Int × List Int)) (last : Int) (done : Bool) (A1 : Option Addr) (n1 c1 : Nat) (A2 : Option Addr) (n2 c2 : Nat) (s : Stp) (F : Nat → Prop) (w0 w : World) (h : RowsNO F w0 w A n R) (hF : ∀ b, F b → b < w.heap.size) (hW : Ext w0 w) (hnc : n ≤ c) (hi : Inv11 ⟨R, last, done⟩) (hrl : n ≤ 100000) (h1 : IntSl w0 A1 n1 s.lits) (hc1 : n1 ≤ c1) (h2 : IntSl w0 A2 n2 s.hints) (hc2 : n2 ≤ c2) :
    Calls Tryz.prog 11 #[.agg #[.slice A n c, .int .i64 last, .bool done], .agg #[.int .i64 s.kind, .int .i64 s.id, .slice A1 n1 c1, .slice A2 n2 c2]] w (RetStepZ F w0 ⟨R, last, done⟩ s w) := by
  obtain ⟨kind, id, lits, hints⟩ := s
  cases hm : mayV ⟨kind, id, lits, hints⟩ with
  | false => exact r11StepBad_c A n c R last done A1 n1 c1 lits A2 n2 c2 hints kind id F w0 w h hF hW hnc hi hrl h1 hc1 h2 hc2 hm
  | true =>
    by_cases hk : kind = 2
    · subst hk
      exact r11StepDel_c A n c R last done A1 n1 c1 lits A2 n2 c2 hints id F w0 w h hF hW hnc hi hrl h1 hc1 h2 hc2 hm
    · have hk1 : kind = 1 := may_kind hm hk
      subst hk1
      exact r11StepAdd_c A n c R last done A1 n1 c1 lits A2 n2 c2 hints id F w0 w h hF hW hnc hi hrl h1 hc1 h2 hc2 hm

/-- Steps, with room for their literals and hints. -/
def OpenedW (W : World) (a : Addr) (i : Nat) (z : Stp) : Prop :=
  (-9223372036854775808 ≤ z.id ∧ z.id ≤ 9223372036854775807) ∧ ∃ A n c A' n' c', StepAt W a i z A n c A' n' c' ∧ IntSl W A n z.lits ∧ n ≤ c ∧ IntSl W A' n' z.hints ∧ n' ≤ c'
def StepsW (W : World) (A : Option Addr) (n : Nat) (l : List Stp) : Prop :=
  l.length = n ∧ n ≤ 9223372036854775807 ∧ (0 < n → ∃ ad, A = some ad ∧ ∀ (i : Nat) (z : Stp), l[i]? = some z → OpenedW W ad i z)
theorem StepsW.toL {W : World} {A : Option Addr} {n : Nat} {l : List Stp} (h : StepsW W A n l) : StepsL W A n l :=
  ⟨h.1, h.2.1, fun hn => let ⟨ad, e, hc⟩ := h.2.2 hn; ⟨ad, e, fun i z hz => let ⟨_, A, n, c, A', n', c', h1, h2, _, h3, _⟩ := hc i z hz; ⟨A, n, c, A', n', c', h1, h2, h3⟩⟩⟩
theorem StepsW.ext {W W' : World} {A : Option Addr} {n : Nat} {l : List Stp} (h : StepsW W A n l) (hx : Ext W W') : StepsW W' A n l :=
  ⟨h.1, h.2.1, fun hn => let ⟨ad, e, hc⟩ := h.2.2 hn; ⟨ad, e, fun i z hz => let ⟨h0, A, n, c, A', n', c', h1, h2, h3, h4, h5⟩ := hc i z hz; ⟨h0, A, n, c, A', n', c', h1.ext hx, h2.ext hx, h3, h4.ext hx, h5⟩⟩⟩
theorem StepsW.at_ {W : World} {A : Option Addr} {n : Nat} {l : List Stp} (h : StepsW W A n l) {k : Nat} (hk : k < n) : ∃ ad z, A = some ad ∧ Hid (l[k]? = some z) ∧ OpenedW W ad k z := by
  obtain ⟨ad, e, hc⟩ := h.2.2 (by omega)
  have hkl : k < l.length := by rw [h.1]; exact hk
  exact ⟨ad, l[k], e, List.getElem?_eq_getElem hkl, hc k _ (List.getElem?_eq_getElem hkl)⟩
section
variable {H : Type} {enc : TypeId × Value → H} {P : Program} {W : World}
theorem open_stepsW {t e i s : TypeId} {f0 f1 f2 f3 : Field} {base : Nat} {v : Value} {d : DataW H} {p : List MemPlace} (ht : P.underlying t = some (.slice e)) (he : P.underlying e = some (.struct #[f0, f1, f2, f3]))
    (hk : P.underlying f0.type = some (.int .i64)) (hi : P.underlying i = some (.int .i64)) (hs : P.underlying s = some (.slice i))
    (hone : oneCellFields P #[f0, f1, f2, f3] = true ∧ f1.type = i ∧ f2.type = s ∧ f3.type = s) (hC : P.cellsOf e = 4) (ci : P.cellsOf i = 1)
    (hval : Value.okWide P W .any base t v) (hd : DataW.Trod enc P W 0 (fun _ => true) true t v d p) : ∃ A n c l, v = .slice A n c ∧ StepsW W A n l := by
  obtain ⟨a0, len0, cap0, rfl⟩ := okWide_slice ht hval
  obtain ⟨fuel, hf⟩ := hd
  obtain ⟨h1, e1, e2, e3⟩ := hone
  rcases open_recs ht he h1 (by rw [hC]; rfl) hf with hcs | ⟨a, len, cap, hcs, hl, hm, hrec⟩
  · simp [Value.cells] at hcs
    obtain ⟨rfl, rfl, rfl⟩ := hcs
    exact ⟨none, 0, 0, [], rfl, rfl, by simp, by omega⟩
  · simp [Value.cells] at hcs
    obtain ⟨rfl, rfl, rfl⟩ := hcs
    have key : ∀ i : Nat, ∃ z : Stp, i < len0 → OpenedW W a i z := by
      intro q
      by_cases hq : q < len0
      · obtain ⟨vs, n, hvl, hat, hfs⟩ := hrec q hq
        obtain ⟨u0, y0, g0, t0⟩ := hfs 0 f0 rfl
        obtain ⟨u1, y1, g1, t1⟩ := hfs 1 f1 rfl
        obtain ⟨u2, y2, g2, t2⟩ := hfs 2 f2 rfl
        obtain ⟨u3, y3, g3, t3⟩ := hfs 3 f3 rfl
        rw [e1] at t1
        rw [e2] at t2
        rw [e3] at t3
        obtain ⟨x0, q0, _, w0⟩ := DataW.trod_int hk t0
        obtain ⟨x1, q1, _, w1⟩ := DataW.trod_int hi t1
        obtain ⟨A2, n2, c2, l2, q2, hl2⟩ := open_intCs hs hi ci t2
        obtain ⟨A3, n3, c3, l3, q3, hl3⟩ := open_intCs hs hi ci t3
        have hc2 : n2 ≤ c2 := by
          rcases open_slice hs t2 with ⟨h0, _⟩ | ⟨a', len', cap', _, _, _, _, hcs', _, hl', _⟩
          · rw [q2] at h0; simp at h0; omega
          · rw [q2] at hcs'; simp at hcs'; omega
        have hc3 : n3 ≤ c3 := by
          rcases open_slice hs t3 with ⟨h0, _⟩ | ⟨a', len', cap', _, _, _, _, hcs', _, hl', _⟩
          · rw [q3] at h0; simp at h0; omega
          · rw [q3] at hcs'; simp at hcs'; omega
        simp at q0 q1 q2 q3
        subst q0 q1 q2 q3
        refine ⟨⟨x0, x1, l2, l3⟩, fun _ => ⟨wf_i64_bd w1, A2, n2, c2, A3, n3, c3, ⟨?_, ?_, ?_, ?_⟩, hl2, hc2, hl3, hc3⟩⟩
        · exact hat 0 _ g0
        · rw [← add_pos11 _ _ _ (by decide)]; exact hat 1 _ g1
        · rw [← add_pos11 _ _ _ (by decide)]; exact hat 2 _ g2
        · rw [← add_pos11 _ _ _ (by decide)]; exact hat 3 _ g3
      · exact ⟨⟨0, 0, [], []⟩, fun h => absurd h hq⟩
    obtain ⟨F, hF⟩ := Classical.axiomOfChoice key
    refine ⟨some a, len0, cap0, (List.range len0).map F, rfl, by simp, by unfold maxLen at hm; omega, fun _ => ⟨a, rfl, fun k z hz => ?_⟩⟩
    have hql : k < len0 := by have := (List.getElem?_eq_some_iff.1 hz).1; simpa using this
    simp [hql] at hz
    subst hz
    exact hF k hql
end
end Go.Proofs.YtdgflniahoidmaaGreat

namespace Go.Proofs.YtdgflniahoidmaaGreat
open Go.RowKit

theorem Blk.drewJ {w : World} {g : Nat} {t : TypeId} {cs : Array Value} (h : Blk w g t cs) : Blk w.drew g t cs := h
theorem r11SameIds_c (A : Option Addr) (n c : Nat) (R : List (Int × List Int)) (last : Int) (done : Bool) (A' : Option Addr) (n' c' : Nat) (l : List Int) (w : World) (h : RowsN w A n R) (hb : ∀ p ∈ R, 1 ≤ p.1 ∧ p.1 ≤ 10000000) (hsm : n ≤ 1000000) (h' : IntSl w A' n' l) :
    Calls Tryz.prog 14 #[.agg #[.slice A n c, .int .i64 last, .bool done], .slice A' n' c'] w fun e w' => e = .returned (.bool (sameV (idsR R) l)) ∧ Ext w w' := by
  have HX0 := Lib.hid ((Ext.refl w).alloc (Obj.cells #[.slice A n c, .int .i64 last, .bool done] 38))
  have HS := Lib.hid (h.ext HX0.out)
  have HS' := Lib.hid (h'.ext HX0.out)
  have HLN := Lib.hid h.1
  have HIB := Lib.hid hb
  clear h h' hb
  go_enter Tryz.func14, Tryz.ntmps14
  go_wp2_with fail
  refine (r11Ids_c _ _ _ R last done _ HS.out HIB.out hsm).mono ?_
  rintro e w5 ⟨v5, rfl, hv5, hx5⟩
  obtain ⟨A5, n5, c5, rfl, hs5⟩ := hv5.sl (by rw [idsR_len]; have := HLN.out; omega) (fun x hx => by
    obtain ⟨p, hp, rfl⟩ := List.mem_map.1 hx
    have := HIB.out p hp
    omega)
  have HS5 := Lib.hid hs5
  have HX5 := Lib.hid hx5
  clear hv5 hx5 hs5
  go_wp2_with fail
  refine (same_c _ _ _ _ _ _ _ l _ HS5.out (HS'.out.ext HX5.out)).mono ?_
  rintro e w6 ⟨rfl, hx6⟩
  have HX6 := Lib.hid ((HX0.out.trans HX5.out).trans hx6)
  clear hx6
  go_wp2_with fail
  go_ret
  exact ⟨rfl, HX6.out⟩

set_option maxHeartbeats 8000000 in
theorem r11Check_c (v : Int) (A : Option Addr) (n c : Nat) (L : List (List Int)) (A' : Option Addr) (n' c' : Nat) (l : List Stp) (w : World) (h : RowsW w A n L) (h' : StepsW w A' n' l) (hsm : n ≤ 10000) (hsm' : n' ≤ 10000) :
    Calls Tryz.prog 7 #[.agg #[.int .i64 v, .slice A n c], .slice A' n' c'] w (RetCheck v L l w) := by
  have HX0 := Lib.hid ((Ext.refl w).alloc (Obj.cells #[.int .i64 v, .slice A n c] 24))
  have HS := Lib.hid h
  have HS' := Lib.hid h'
  have HLN := Lib.hid h.1
  have HLN' := Lib.hid h'.1
  clear h h'
  obtain ⟨⟨f1, f2⟩, hf⟩ : ∃ r, fCheckV v L = r := ⟨_, rfl⟩
  have HF := Lib.hid hf
  clear hf
  go_enter Tryz.func7, Tryz.ntmps7
  go_wp2_with fail
  refine (r11New_c v _ _ _ L w _ HS.out HX0.out (by omega)).mono ?_
  rintro e w1 ⟨A1, n1, c1, last1, done1, rfl, hok, hx1⟩
  rw [HF.out] at hok ⊢
  have HX1 := Lib.hid (HX0.out.trans hx1)
  by_cases h2 : f2 = 0
  · subst h2
    obtain ⟨rfl, rfl, hro, hc1⟩ := hok rfl
    have HRO1 := Lib.hid (hro (fun _ => False) (fun _ e => e.elim))
    have HR : Hid (checkL v L l = runS (newS L) l 0) := by unfold Hid checkL; rw [HF.out, if_neg (by simp)]
    have HINV : Hid (Inv11 (newS L)) := newS_inv (v := v) (by rw [HF.out]) (by rw [HLN.out]; omega)
    clear hro hok hx1
    have HNL := Lib.hid (newS_len L)
    generalize hN : newS L = N at HR HINV HRO1 HNL ⊢
    obtain ⟨R1, last1, done1⟩ := N
    dsimp only at HRO1 HNL ⊢
    clear hN
    obtain ⟨gz, hgz⟩ : ∃ g, w1.heap.size = g := ⟨_, rfl⟩
    have hgz1 : gz ≤ w1.heap.size := by omega
    have hgz2 : w1.heap.size ≤ gz := by omega
    have hgz3 : w.heap.size ≤ gz := by have := HX1.out.size_le; omega
    have HBZ : Hid (Blk (w1.alloc (Obj.cells #[.slice A1 n1 c1, .int .i64 last1, .bool done1] 38)) gz 38 #[.slice A1 n1 c1, .int .i64 last1, .bool done1]) := Blk.newg2 _ _ hgz
    have HRZ : Hid (RowsNO (fun b => b = gz) w (w1.alloc (Obj.cells #[.slice A1 n1 c1, .int .i64 last1, .bool done1] 38)) A1 n1 R1) := (HRO1.out.wider (fun b hb e => by omega)).stay (Ext.stay ((Ext.refl w1).alloc _))
    have HXZ : Hid (Ext w (w1.alloc (Obj.cells #[.slice A1 n1 c1, .int .i64 last1, .bool done1] 38))) := HX1.out.alloc _
    go_wp2_with fail
    try rw [hgz]
    clear hgz
    go_loopw [4, 5, 8, 9, 10] (fun _ _ i _ _ wr => ∃ (k : Nat) (R : List (Int × List Int)) (last : Int) (done : Bool) (Ak : Option Addr) (nk ck : Nat), k ≤ n' ∧ i = .int .i64 k ∧ Blk wr gz 38 #[.slice Ak nk ck, .int .i64 last, .bool done] ∧ RowsNO (fun b => b = gz) w wr Ak nk R ∧ nk ≤ ck ∧ RunAt ⟨R1, last1, done1⟩ l k ⟨R, last, done⟩ ∧ Ext w wr) (fun _ _ i _ _ _ => n' - (intOf i).toNat)
    case atStart => exact ⟨0, R1, last1, done1, A1, n1, c1, Nat.zero_le _, rfl, HBZ.out, HRZ.out, hc1, RunAt.zero l HINV.out, HXZ.out⟩
    case round =>
      obtain ⟨k, R, last, done, Ak, nk, ck, hk, rfl, hbz, hro, hnk, hrun, hx⟩ := hrel
      have HB := Lib.hid hbz
      have HRO := Lib.hid hro
      have HRUN := Lib.hid hrun
      have HX := Lib.hid hx
      clear hbz hro hrun hx
      by_cases hlt : k < n'
      · obtain ⟨ad, z, rfl, hz, hid, A3, n3, c3, A4, n4, c4, hat, hi3, hc3, hi4, hc4⟩ := HS'.out.at_ hlt
        obtain ⟨q0, q1, q2, q3⟩ := hat.ext HX.out
        have HZK := Lib.hid hz.out
        have HI3 := Lib.hid hi3
        have HI4 := Lib.hid hi4
        have hnk9 : nk ≤ 100000 := by
          have e1 := HRUN.out.2.2
          have e2 := HRO.out.1
          have e3 := HNL.out
          dsimp only at e1
          have e4 := HLN.out
          omega
        obtain ⟨E, hE⟩ : ∃ E, stepE ⟨R, last, done⟩ z = E := ⟨_, rfl⟩
        have HE := Lib.hid hE
        have HZL : Hid (gz < wr.heap.size) := HB.out.lt
        have b0 := HB.out.cell 0
        have b1 := HB.out.cell 1
        have b2 := HB.out.cell 2
        have b0' := fun o : Obj => (HB.out.ext (((Ext.refl wr).alloc o).drew)).cell 0
        have b1' := fun o : Obj => (HB.out.ext (((Ext.refl wr).alloc o).drew)).cell 1
        have b2' := fun o : Obj => (HB.out.ext (((Ext.refl wr).alloc o).drew)).cell 2
        have q0' := fun o : Obj => ((Ext.refl wr).alloc o).drew.cell q0
        have q1' := fun o : Obj => ((Ext.refl wr).alloc o).drew.cell q1
        have q2' := fun o : Obj => ((Ext.refl wr).alloc o).drew.cell q2
        have q3' := fun o : Obj => ((Ext.refl wr).alloc o).drew.cell q3
        have HKEY : Hid (∀ (F' : Nat → Prop) (W : World), (∀ b, b < wr.heap.size → F' b → b = gz) → (∀ b, F' b → b < W.heap.size) → Ext wr W → Calls Tryz.prog 11 #[.agg #[.slice Ak nk ck, .int .i64 last, .bool done], .agg #[.int .i64 z.kind, .int .i64 z.id, .slice A3 n3 c3, .slice A4 n4 c4]] W (RetStepZ F' w ⟨R, last, done⟩ z W)) := fun F' W h1 h2 hx =>
          r11Step_c Ak nk ck R last done A3 n3 c3 A4 n4 c4 z F' w W ((HRO.out.wider h1).stay (Ext.stay hx)) h2 (HX.out.trans hx) hnk HRUN.out.2.1 hnk9 HI3.out hc3 HI4.out hc4
        have HF1 : Hid (∀ b, b = gz → b < wr.drew.heap.size) := fun b e => by rw [e]; exact HZL.out
        have HF2 : Hid (∀ (o : Obj) (b : Nat), (b = gz ∨ b = wr.heap.size) → b < ((wr.alloc o).drew).heap.size) := fun o b e => by
          have h2 : gz < wr.heap.size := HZL.out
          show b < (wr.alloc o).heap.size
          rw [World.size_alloc]
          omega
        have HF3 : Hid (∀ b, b < wr.heap.size → (b = gz ∨ b = wr.heap.size) → b = gz) := fun b h e => by rcases e with e | e; exact e; omega
        clear hz hid hi3 hi4 hat hE
        go_wp2_with fail
        go_region_law
          ((first
            | (go_simp; (with_reducible refine (HKEY.out (fun b => b = gz) _ (fun b _ e => e) HF1.out (Ext.drew (Ext.refl wr))).mono ?_); rintro _ w4 ⟨A5, n5, c5, last5, done5, rfl, hro5, hc5, hl5, hd5, hx4⟩; rw [HE.out]; have HX4 : Hid (Ext wr w4) := (Ext.drew (Ext.refl wr)).trans hx4; have HRO5 := Lib.hid hro5; have HL5 := Lib.hid hl5; have HD5 := Lib.hid hd5; clear hx4 hro5 hl5 hd5)
            | (go_simp; (with_reducible refine (HKEY.out (fun b => b = gz ∨ b = wr.heap.size) _ HF3.out (HF2.out _) (((Ext.refl wr).alloc _).drew)).mono ?_); rintro _ w4 ⟨A5, n5, c5, last5, done5, rfl, hro5, hc5, hl5, hd5, hx4⟩; rw [HE.out]; have NB := Lib.hid ((Blk.drewJ (Blk.new wr 38 #[.slice none 0 0, .int .i64 0, .bool false])).ext hx4); have n0 := NB.out.cell 0; have n1' := NB.out.cell 1; have n2' := NB.out.cell 2; have f0 := NB.out.frozen 0; have f1' := NB.out.frozen 1; have f2' := NB.out.frozen 2; have HX4 : Hid (Ext wr w4) := (((Ext.refl wr).alloc _).drew).trans hx4; have HRO5 := Lib.hid hro5; have HL5 := Lib.hid hl5; have HD5 := Lib.hid hd5; clear hx4 hro5 hl5 hd5)))
        all_goals
          clear b0 b1 b2 b0' b1' b2' q0 q1 q2 q3 q0' q1' q2' q3'
          first
          | (have nb := NB.out
             have hq := ((nb.set_ 0 (.slice A5 n5 c5)).set_ 1 (.int .i64 last5)).set_ 2 (.bool done5)
             have hxw : Ext wr (((w4.setCell ⟨wr.heap.size, 0, none⟩ (.slice A5 n5 c5)).setCell ⟨wr.heap.size, 1, none⟩ (.int .i64 last5)).setCell ⟨wr.heap.size, 2, none⟩ (.bool done5)) := ((HX4.out.setCell (Nat.le_refl _) _).setCell (Nat.le_refl _) _).setCell (Nat.le_refl _) _
             have hr5 := RowsNO.less (F := fun b => b = gz) (HRO5.out.stay ((((Stay.refl (fun b => b = gz ∨ b = wr.heap.size) w4).setCell (p := ⟨wr.heap.size, 0, none⟩) (.inl (.inr rfl)) (.slice A5 n5 c5)).setCell (p := ⟨wr.heap.size, 1, none⟩) (.inl (.inr rfl)) (.int .i64 last5)).setCell (p := ⟨wr.heap.size, 2, none⟩) (.inl (.inr rfl)) (.bool done5))) (fun b e => .inl e)
             clear n0 n1' n2' f0 f1' f2' nb NB
             generalize ((w4.setCell ⟨wr.heap.size, 0, none⟩ (.slice A5 n5 c5)).setCell ⟨wr.heap.size, 1, none⟩ (.int .i64 last5)).setCell ⟨wr.heap.size, 2, none⟩ (.bool done5) = w5 at hq hxw hr5 ⊢
             generalize wr.heap.size = g9 at hq ⊢)
          | (have hq := Blk.new w4 38 #[.slice A5 n5 c5, .int .i64 last5, .bool done5]
             have hxw : Ext wr (w4.alloc (Obj.cells #[.slice A5 n5 c5, .int .i64 last5, .bool done5] 38)) := HX4.out.alloc _
             have hr5 := HRO5.out.stay (Ext.stay ((Ext.refl w4).alloc (Obj.cells #[.slice A5 n5 c5, .int .i64 last5, .bool done5] 38)))
             generalize w4.alloc (Obj.cells #[.slice A5 n5 c5, .int .i64 last5, .bool done5] 38) = w5 at hq hxw hr5 ⊢
             generalize w4.heap.size = g9 at hq ⊢)
          have HXW := Lib.hid hxw
          have HR5 := Lib.hid hr5
          have y0 := hq.cell 0
          have y1 := hq.cell 1
          have y2 := hq.cell 2
          have hbw := HB.out.ext hxw
          have HBW := Lib.hid hbw
          have d0 := hbw.cell 0
          have d1 := hbw.cell 1
          have d2 := hbw.cell 2
          have z0 := hbw.frozen 0
          have z1 := hbw.frozen 1
          have z2 := hbw.frozen 2
          clear hxw hr5 hbw hq
          by_cases hz : E = 0
          · subst hz
            have HRN : Hid (RunAt ⟨R1, last1, done1⟩ l (k + 1) (stepS ⟨R, last, done⟩ z)) := HRUN.out.step HZK.out HE.out
            obtain ⟨S', hS⟩ : ∃ S', stepS ⟨R, last, done⟩ z = S' := ⟨_, rfl⟩
            rw [hS] at HRN HR5 HL5 HD5
            clear hS
            obtain ⟨R', la', do'⟩ := S'
            have e1 : last5 = la' := HL5.out
            have e2 : done5 = do' := HD5.out
            subst e1 e2
            go_wp2_with fail
            go_roundw
            case rel =>
              refine ⟨k + 1, R', last5, done5, A5, n5, c5, by omega, by go_num, ?_, HR5.out.stay ((((Stay.refl (fun b => b = gz) w5).setCell (p := ⟨gz, 0, none⟩) (.inl rfl) _).setCell (p := ⟨gz, 1, none⟩) (.inl rfl) _).setCell (p := ⟨gz, 2, none⟩) (.inl rfl) _), hc5, HRN.out, (((HX.out.trans HXW.out).setCell hgz3 _).setCell hgz3 _).setCell hgz3 _⟩
              have := ((HBW.out.set_ 0 (.slice A5 n5 c5)).set_ 1 (.int .i64 last5)).set_ 2 (.bool done5)
              simpa using this
            case measure => simp [intOf]; omega
          · have hb : (E != 0) = true := by simpa using hz
            have HRR : Hid (checkL v L l = ((k : Int), E)) := by unfold Hid; rw [HR.out, HRUN.out.err HZK.out (by rw [HE.out]; exact hz), HE.out]
            go_wp2_with fail
            go_ret2
            exact ⟨by rw [HRR.out]; rfl, HX.out.trans HXW.out⟩
      · have hkn : k = n' := by omega
        subst hkn
        have HRR : Hid (checkL v L l = ((k : Int), if done then 0 else 25)) := by unfold Hid; rw [HR.out, HRUN.out.last (by rw [HLN'.out]; exact Nat.le_refl _)]
        have b2 := HB.out.cell 2
        cases done
        · go_wp2_with fail
          go_ret2
          exact ⟨by rw [HRR.out]; rfl, HX.out⟩
        · go_wp2_with fail
          go_ret2
          exact ⟨by rw [HRR.out]; rfl, HX.out⟩
  · have hb : (f2 != 0) = true := by simpa using h2
    have HRR : Hid (checkL v L l = (-1, f2)) := by unfold Hid checkL; rw [HF.out, if_pos h2]
    clear hok hx1
    go_wp2_with fail
    go_ret2
    exact ⟨by rw [HRR.out]; rfl, HX1.out.alloc _⟩
end Go.Proofs.YtdgflniahoidmaaGreat
