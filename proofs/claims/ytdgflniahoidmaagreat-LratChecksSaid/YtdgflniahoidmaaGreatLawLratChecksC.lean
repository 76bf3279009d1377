/- LratChecks answers true. -/
import Derived.Test.YtdgflniahoidmaaGreatLzJ
import Derived.Test.YtdgflniahoidmaaGreatLr22
import Derived.Deep.RegionHeld3
import Derived.Deep.DeepCutAuto
set_option maxRecDepth 100000
namespace Go.Proofs.YtdgflniahoidmaaGreat
open Go.RowKit Go.Maps

theorem sameV_reflZ (xs : List Int) : sameV xs xs = true := by simp [sameV]
theorem CMem.farZ {w : World} {p b g : Nat} {S : CSt} {cs : Array Value} (h : CMem w p b S) (hb : Blk w g 38 cs) (i : Nat) (u : Value) : CMem (w.setCell ⟨g, i, none⟩ u) p b S :=
  ⟨h.blk.far (h.blk.ne_ hb (by decide)) u, h.map.cell hb (by decide) u⟩
/-- What is so at the head of each round. -/
def AtZ (w0 w : World) (N p b g k : Nat) (R : List (Int × List Int)) (last : Int) (done : Bool) (A : Option Addr) (n c : Nat) : Prop :=
  CMem w p b ⟨R, last, done⟩ ∧ Blk w g 38 #[.slice A n c, .int .i64 last, .bool done] ∧ RowsNO (fun j => ChF p b j ∨ j = g) w0 w A n R ∧ n ≤ c ∧ Inv11 ⟨R, last, done⟩ ∧ R.length ≤ N + k ∧ Ext w0 w
/-- The checker's cells are set. -/
theorem AtZ.set {w0 w : World} {N p b g k : Nat} {R : List (Int × List Int)} {last : Int} {done : Bool} {A : Option Addr} {n c : Nat} {cs : Array Value} (hm : CMem w p b ⟨R, last, done⟩) (hb : Blk w g 38 cs) (hcs : cs.size = 3) (hr : RowsNO (fun j => ChF p b j ∨ j = g) w0 w A n R) (hc : n ≤ c) (hi : Inv11 ⟨R, last, done⟩) (hl : R.length ≤ N + k) (hx : Ext w0 w) (hg : w0.heap.size ≤ g) :
    AtZ w0 (((w.setCell ⟨g, 0, none⟩ (.slice A n c)).setCell ⟨g, 1, none⟩ (.int .i64 last)).setCell ⟨g, 2, none⟩ (.bool done)) N p b g k R last done A n c := by
  refine ⟨((hm.farZ hb 0 _).farZ (hb.set_ 0 _) 1 _).farZ ((hb.set_ 0 _).set_ 1 _) 2 _, ?_, hr.stay ((((Stay.refl (fun j => ChF p b j ∨ j = g) w).setCell (p := ⟨g, 0, none⟩) (.inl (.inr rfl)) _).setCell (p := ⟨g, 1, none⟩) (.inl (.inr rfl)) _).setCell (p := ⟨g, 2, none⟩) (.inl (.inr rfl)) _), hc, hi, hl, ((hx.setCell hg _).setCell hg _).setCell hg _⟩
  have e := ((hb.set_ 0 (.slice A n c)).set_ 1 (.int .i64 last)).set_ 2 (.bool done)
  have e2 : ((cs.setIfInBounds 0 (.slice A n c)).setIfInBounds 1 (.int .i64 last)).setIfInBounds 2 (.bool done) = #[.slice A n c, .int .i64 last, .bool done] := by
    obtain ⟨l⟩ := cs
    match l, hcs with
    | [x, y, z], _ => rfl
  rwa [e2] at e
theorem AtZ.ext {w0 w w' : World} {N p b g k : Nat} {R : List (Int × List Int)} {last : Int} {done : Bool} {A : Option Addr} {n c : Nat} (h : AtZ w0 w N p b g k R last done A n c) (hx : Ext w w') : AtZ w0 w' N p b g k R last done A n c :=
  ⟨h.1.ext hx, h.2.1.ext hx, h.2.2.1.stay (Ext.stay hx), h.2.2.2.1, h.2.2.2.2.1, h.2.2.2.2.2.1, h.2.2.2.2.2.2.trans hx⟩

set_option maxRecDepth 100000 in
set_option maxHeartbeats 16000000 in
theorem lawLratChecks_c (x : Int) (A : Option Addr) (n c : Nat) (L : List (List Int)) (A' : Option Addr) (n' c' : Nat) (l : List Stp) (w : World) (hf : (-9223372036854775808 ≤ x ∧ x ≤ 9223372036854775807) ∧ RowsW w A n L ∧ n ≤ c) (hs : StepsW w A' n' l) :
    Calls Tryz.prog 3 #[.agg #[.int .i64 x, .slice A n c], .slice A' n' c'] w fun e w' => e = .returned (.bool true) ∧ Ext w w' := by
  have HX0 := Lib.hid ((Ext.refl w).alloc (Obj.cells #[.int .i64 x, .slice A n c] 24))
  have HB0 := Lib.hid (Blk.new w 24 #[.int .i64 x, .slice A n c])
  have HFO := Lib.hid hf.2.1
  have HLN := Lib.hid hf.2.1.1
  have HST := Lib.hid hs
  clear hf hs
  have b0 := HB0.out.cell 0
  have b1 := HB0.out.cell 1
  go_enter Tryz.func3, Tryz.ntmps3
  go_wp2_with fail
  refine (few11_c x _ _ _ L _ _ _ l _ (HFO.out.sl.ext HX0.out) (HST.out.toL.ext HX0.out)).mono ?_
  rintro e w1 ⟨r, rfl, hr, hx1⟩
  have HX1 := Lib.hid (HX0.out.trans hx1)
  have HB1 := Lib.hid (HB0.out.ext hx1)
  have c0 := HB1.out.cell 0
  have c1 := HB1.out.cell 1
  clear hx1 b0 b1
  cases r
  · go_wp2_with fail
    refine (awake11_c _).mono ?_
    rintro e w2 ⟨rfl, hx2⟩
    have HX2 := Lib.hid (HX1.out.trans hx2)
    clear hx2
    go_wp2_with fail
    go_ret
    exact ⟨rfl, HX2.out⟩
  · obtain ⟨hn60, hn60'⟩ := hr rfl
    clear hr
    go_wp2_with fail
    refine (check_c x _ _ _ L _ _ _ l _ (HFO.out.sl.ext HX1.out) (HST.out.toL.ext HX1.out) (by omega) (by omega)).mono ?_
    rintro e w2 ⟨rfl, hx2⟩
    have HX2 := Lib.hid (HX1.out.trans hx2)
    have HB2 := Lib.hid (HB1.out.ext hx2)
    have d0 := HB2.out.cell 0
    have d1 := HB2.out.cell 1
    clear hx2 c0 c1
    go_wp2_with fail
    refine (r11Check_c x _ _ _ L _ _ _ l _ (HFO.out.ext HX2.out) (HST.out.ext HX2.out) (by omega) (by omega)).mono ?_
    rintro e w3 ⟨rfl, hx3⟩
    have HX3 := Lib.hid (HX2.out.trans hx3)
    have HB3 := Lib.hid (HB2.out.ext hx3)
    have c0 := HB3.out.cell 0
    have c1 := HB3.out.cell 1
    clear hx3 d0 d1
    obtain ⟨⟨r1, r2⟩, hRS⟩ : ∃ RS, checkL x L l = RS := ⟨_, rfl⟩
    rw [hRS]
    clear hRS
    go_wp2_with fail
    refine (new_c x _ _ _ L _ (HFO.out.sl.ext HX3.out) (by omega)).mono ?_
    intro e w4 hret
    unfold RetNew at hret
    by_cases hfc : (fCheckV x L).2 = 0
    · rw [if_neg (by simpa using hfc)] at hret
      obtain ⟨p, b, rfl, hm4, hp4, hb4, hx4⟩ := hret
      have hpl := hm4.blk.lt
      have hbl : b < w4.heap.size := by obtain ⟨_, _, _, hmv, _⟩ := hm4.map; exact hmv.lt
      have HPB : Hid (w.heap.size ≤ p ∧ w.heap.size ≤ b) := by have := HX3.out.size_le; exact ⟨by omega, by omega⟩
      have HM4 := Lib.hid hm4
      have HX4 := Lib.hid (HX3.out.trans hx4)
      have HB4 := Lib.hid (HB3.out.ext hx4)
      have d0 := HB4.out.cell 0
      have d1 := HB4.out.cell 1
      have HINV : Hid (Inv11 (newS L)) := newS_inv hfc (by rw [HLN.out]; omega)
      have HFC := Lib.hid hfc
      clear hm4 hp4 hb4 hx4 c0 c1 hfc
      go_wp2_with fail
      refine (r11New_c x _ _ _ L w _ HFO.out HX4.out (by omega)).mono ?_
      rintro e w5 ⟨A1, n1, cc1, last1, done1, rfl, hok, hx5⟩
      obtain ⟨rfl, rfl, hro, hc1⟩ := hok HFC.out
      rw [HFC.out]
      obtain ⟨gz, hgz⟩ : ∃ g, w5.heap.size = g := ⟨_, rfl⟩
      have hszz := hx5.size_le
      have HPG : Hid (p < gz ∧ b < gz) := ⟨by omega, by omega⟩
      have hgw : w.heap.size ≤ gz := by have := HPB.out; have := HPG.out; omega
      have HAT : Hid (AtZ w (w5.alloc (Obj.cells #[.slice A1 n1 cc1, .int .i64 (newS L).last, .bool (newS L).done] 38)) n p b gz 0 (newS L).rows (newS L).last (newS L).done A1 n1 cc1) :=
        ⟨(HM4.out.ext hx5).ext ((Ext.refl w5).alloc _), Blk.newg2 _ _ hgz, ((hro (ChF p b) (fun j e => by rcases e with e | e <;> omega)).wider (fun j hj e => by rcases e with e | e; exact e; omega)).stay (Ext.stay ((Ext.refl w5).alloc _)), hc1, HINV.out, by rw [newS_len, HLN.out]; exact Nat.le_refl _, (HX4.out.trans hx5).alloc _⟩
      clear hok hro hx5 hszz hpl hbl d0 d1
      generalize hN : newS L = N0 at HAT ⊢
      obtain ⟨R1, la1, do1⟩ := N0
      dsimp only at HAT ⊢
      clear hN HINV
      go_wp2_with fail
      try rw [hgz]
      clear hgz
      go_loopw [4, 13, 14, 15, 16, 17, 18, 19, 20] (fun _ i _ _ _ _ _ _ _ wr => ∃ (k : Nat) (R : List (Int × List Int)) (last : Int) (done : Bool) (Ak : Option Addr) (nk ck : Nat), k ≤ n' ∧ i = .int .i64 k ∧ AtZ w wr n p b gz k R last done Ak nk ck) (fun _ i _ _ _ _ _ _ _ _ => n' - (intOf i).toNat)
      case atStart => exact ⟨0, _, _, _, _, _, _, Nat.zero_le _, rfl, HAT.out⟩
      case round =>
        obtain ⟨k, R, last, done, Ak, nk, ck, hk, rfl, hm, hbz, hro, hnk, hinv, hrl, hx⟩ := hrel
        have HM := Lib.hid hm
        have HBZ := Lib.hid hbz
        have HRO := Lib.hid hro
        have HINV := Lib.hid hinv
        have HX := Lib.hid hx
        clear hm hbz hro hinv hx
        by_cases hlt : k < n'
        · obtain ⟨ad, z, rfl, hz, hidb, A3, n3, c3, A4, n4, c4, hat, hi3, hc3, hi4, hc4⟩ := HST.out.at_ hlt
          obtain ⟨q0, q1, q2, q3⟩ := hat.ext HX.out
          have HAT4 := Lib.hid hat
          have HI3 := Lib.hid hi3
          have HI4 := Lib.hid hi4
          have HOUT : Hid (0 < n4 → Out (ChF p b) A4) := fun hn ad' e hF => by
            have := hi4.oldS hn ad' e
            have := HPB.out
            rcases hF with e | e <;> omega
          have hnk9 : nk ≤ 100000 := by have e1 := HRO.out.1; omega
          obtain ⟨E, hE⟩ : ∃ E, stepE ⟨R, last, done⟩ z = E := ⟨_, rfl⟩
          have HE := Lib.hid hE
          have HINV2 := Lib.hid (HINV.out.step z)
          have HRL2 : Hid ((stepS ⟨R, last, done⟩ z).rows.length ≤ n + (k + 1)) := by have e := stepS_len ⟨R, last, done⟩ z; dsimp only at e; unfold Hid; omega
          clear hz hat hi3 hi4 hE
          go_wp2_with fail
          refine (step_c p b ⟨R, last, done⟩ z _ _ _ _ _ _ _ HM.out HINV.out (by show R.length ≤ 100000; omega) (HI3.out.ext HX.out) (HI4.out.ext HX.out) HOUT.out).mono ?_
          rintro e w6 ⟨rfl, hm6, hst6⟩
          rw [HE.out]
          have HM6 := Lib.hid hm6
          have HX6 : Hid (Ext w w6) := HX.out.then_stay hst6 (fun j e => by have := HPB.out; rcases e with e | e <;> subst e <;> omega)
          have HBZ6 := Lib.hid (hst6.blk HBZ.out (fun e => by have := HPG.out; rcases e with e | e <;> omega))
          have HRO6 := Lib.hid (HRO.out.stay (hst6.mono (fun j _ h => .inl h)))
          clear hm6 hst6 q0 q1 q2 q3 HM HBZ HRO
          obtain ⟨S', hS⟩ : ∃ S', stepS ⟨R, last, done⟩ z = S' := ⟨_, rfl⟩
          have HSS := Lib.hid hS
          rw [hS] at HM6 HINV2 HRL2
          clear hS
          obtain ⟨R', la', do'⟩ := S'
          dsimp only at HRL2
          obtain ⟨q0, q1, q2, q3⟩ := HAT4.out.ext HX6.out
          have HZL : Hid (gz < w6.heap.size) := HBZ6.out.lt
          have HPL : Hid (p < w6.heap.size ∧ b < w6.heap.size) := by have := HPG.out; have := HZL.out; exact ⟨by omega, by omega⟩
          have b0 := HBZ6.out.cell 0
          have b1 := HBZ6.out.cell 1
          have b2 := HBZ6.out.cell 2
          have b0' := fun o : Obj => (HBZ6.out.ext (((Ext.refl w6).alloc o).drew)).cell 0
          have b1' := fun o : Obj => (HBZ6.out.ext (((Ext.refl w6).alloc o).drew)).cell 1
          have b2' := fun o : Obj => (HBZ6.out.ext (((Ext.refl w6).alloc o).drew)).cell 2
          have q0' := fun o : Obj => ((Ext.refl w6).alloc o).drew.cell q0
          have q1' := fun o : Obj => ((Ext.refl w6).alloc o).drew.cell q1
          have q2' := fun o : Obj => ((Ext.refl w6).alloc o).drew.cell q2
          have q3' := fun o : Obj => ((Ext.refl w6).alloc o).drew.cell q3
          have HKEY : Hid (∀ (F' : Nat → Prop) (W : World), (∀ j, j < w6.heap.size → F' j → ChF p b j ∨ j = gz) → (∀ j, F' j → j < W.heap.size) → Ext w6 W → Calls Tryz.prog 11 #[.agg #[.slice Ak nk ck, .int .i64 last, .bool done], .agg #[.int .i64 z.kind, .int .i64 z.id, .slice A3 n3 c3, .slice A4 n4 c4]] W (RetStepZ F' w ⟨R, last, done⟩ z W)) := fun F' W h1 h2 hx =>
            r11Step_c Ak nk ck R last done A3 n3 c3 A4 n4 c4 z F' w W ((HRO6.out.wider h1).stay (Ext.stay hx)) h2 (HX6.out.trans hx) hnk HINV.out hnk9 HI3.out hc3 HI4.out hc4
          have HF1 : Hid (∀ j, ChF p b j ∨ j = gz → j < w6.drew.heap.size) := fun j e => by
            have h2 : gz < w6.heap.size := HZL.out
            have h3 := HPL.out
            show j < w6.heap.size
            rcases e with (e | e) | e <;> omega
          have HF2 : Hid (∀ (o : Obj) (j : Nat), ((ChF p b j ∨ j = gz) ∨ j = w6.heap.size) → j < ((w6.alloc o).drew).heap.size) := fun o j e => by
            have h2 : gz < w6.heap.size := HZL.out
            have h3 := HPL.out
            show j < (w6.alloc o).heap.size
            rw [World.size_alloc]
            rcases e with ((e | e) | e) | e <;> omega
          have HF3 : Hid (∀ j, j < w6.heap.size → ((ChF p b j ∨ j = gz) ∨ j = w6.heap.size) → ChF p b j ∨ j = gz) := fun j h e => by rcases e with e | e; exact e; omega
          go_wp2_with fail
          go_cut [15, 16] (fun s15 s16 wx => ∃ (g9 : Nat) (A5 : Option Addr) (n5 c5 : Nat), s15 = .pointer (some ⟨g9, 0, none⟩) ∧ s16 = .int .i64 E ∧ Blk wx g9 38 #[.slice A5 n5 c5, .int .i64 la', .bool do'] ∧ RowsNO (fun j => ChF p b j ∨ j = gz) w wx A5 n5 R' ∧ n5 ≤ c5 ∧ Ext w6 wx)
          case first =>
           go_region_law
            ((first
              | (go_simp; (with_reducible refine (HKEY.out (fun j => ChF p b j ∨ j = gz) _ (fun j _ e => e) HF1.out (Ext.drew (Ext.refl w6))).mono ?_); rintro _ w7 ⟨A5, n5, c5, last5, done5, rfl, hro5, hc5, hl5, hd5, hx7⟩; rw [HE.out]; have HX7 : Hid (Ext w6 w7) := (Ext.drew (Ext.refl w6)).trans hx7; have HRO5 := Lib.hid hro5; have HL5 := Lib.hid hl5; have HD5 := Lib.hid hd5; clear hx7 hro5 hl5 hd5)
              | (go_simp; (with_reducible refine (HKEY.out (fun j => (ChF p b j ∨ j = gz) ∨ j = w6.heap.size) _ HF3.out (HF2.out _) (((Ext.refl w6).alloc _).drew)).mono ?_); rintro _ w7 ⟨A5, n5, c5, last5, done5, rfl, hro5, hc5, hl5, hd5, hx7⟩; rw [HE.out]; have NB := Lib.hid ((Blk.drewJ (Blk.new w6 38 #[.slice none 0 0, .int .i64 0, .bool false])).ext hx7); have n0 := NB.out.cell 0; have n1' := NB.out.cell 1; have n2' := NB.out.cell 2; have f0 := NB.out.frozen 0; have f1' := NB.out.frozen 1; have f2' := NB.out.frozen 2; have HX7 : Hid (Ext w6 w7) := (((Ext.refl w6).alloc _).drew).trans hx7; have HRO5 := Lib.hid hro5; have HL5 := Lib.hid hl5; have HD5 := Lib.hid hd5; clear hx7 hro5 hl5 hd5)))
           all_goals
            clear b0 b1 b2 b0' b1' b2' q0 q1 q2 q3 q0' q1' q2' q3'
            first
            | (have nb := NB.out
               have hq := ((nb.set_ 0 (.slice A5 n5 c5)).set_ 1 (.int .i64 last5)).set_ 2 (.bool done5)
               have hxw : Ext w6 (((w7.setCell ⟨w6.heap.size, 0, none⟩ (.slice A5 n5 c5)).setCell ⟨w6.heap.size, 1, none⟩ (.int .i64 last5)).setCell ⟨w6.heap.size, 2, none⟩ (.bool done5)) := ((HX7.out.setCell (Nat.le_refl _) _).setCell (Nat.le_refl _) _).setCell (Nat.le_refl _) _
               have hr5 := RowsNO.less (F := fun j => ChF p b j ∨ j = gz) (HRO5.out.stay ((((Stay.refl (fun j => (ChF p b j ∨ j = gz) ∨ j = w6.heap.size) w7).setCell (p := ⟨w6.heap.size, 0, none⟩) (.inl (.inr rfl)) (.slice A5 n5 c5)).setCell (p := ⟨w6.heap.size, 1, none⟩) (.inl (.inr rfl)) (.int .i64 last5)).setCell (p := ⟨w6.heap.size, 2, none⟩) (.inl (.inr rfl)) (.bool done5))) (fun j e => .inl e)
               clear n0 n1' n2' f0 f1' f2' nb NB
               generalize ((w7.setCell ⟨w6.heap.size, 0, none⟩ (.slice A5 n5 c5)).setCell ⟨w6.heap.size, 1, none⟩ (.int .i64 last5)).setCell ⟨w6.heap.size, 2, none⟩ (.bool done5) = w8 at hq hxw hr5 ⊢
               generalize w6.heap.size = g9 at hq ⊢)
            | (have hq := Blk.new w7 38 #[.slice A5 n5 c5, .int .i64 last5, .bool done5]
               have hxw : Ext w6 (w7.alloc (Obj.cells #[.slice A5 n5 c5, .int .i64 last5, .bool done5] 38)) := HX7.out.alloc _
               have hr5 := HRO5.out.stay (Ext.stay ((Ext.refl w7).alloc (Obj.cells #[.slice A5 n5 c5, .int .i64 last5, .bool done5] 38)))
               generalize w7.alloc (Obj.cells #[.slice A5 n5 c5, .int .i64 last5, .bool done5] 38) = w8 at hq hxw hr5 ⊢
               generalize w7.heap.size = g9 at hq ⊢)
            rw [HSS.out] at hr5 HL5 HD5
            have e1 : last5 = la' := HL5.out
            have e2 : done5 = do' := HD5.out
            subst e1 e2
            go_wp2_with fail
            go_meet
            exact ⟨_, A5, n5, c5, rfl, rfl, hq, hr5, hc5, hxw⟩
          case rest =>
            obtain ⟨g9, A5, n5, c5, rfl, rfl, hq, hr5, hc5, hxw⟩ := hcut
            clear b0 b1 b2 b0' b1' b2' q0 q1 q2 q3 q0' q1' q2' q3'
            generalize wc = w8 at hq hxw hr5 ⊢
            have hbw := HBZ6.out.ext hxw
            have HAZ : Hid (AtZ w (((w8.setCell ⟨gz, 0, none⟩ (.slice A5 n5 c5)).setCell ⟨gz, 1, none⟩ (.int .i64 la')).setCell ⟨gz, 2, none⟩ (.bool do')) n p b gz (k + 1) R' la' do' A5 n5 c5) :=
              AtZ.set (HM6.out.ext hxw) hbw rfl hr5 hc5 HINV2.out HRL2.out (HX6.out.trans hxw) hgw
            have y0 := hq.cell 0
            have y1 := hq.cell 1
            have y2 := hq.cell 2
            have d0 := hbw.cell 0
            have d1 := hbw.cell 1
            have d2 := hbw.cell 2
            have z0 := hbw.frozen 0
            have z1 := hbw.frozen 1
            have z2 := hbw.frozen 2
            have q1 := (HAT4.out.ext HAZ.out.2.2.2.2.2.2).2.1
            clear hbw hxw hr5 hq
            go_wp2_with fail
            generalize ((w8.setCell ⟨gz, 0, none⟩ (.slice A5 n5 c5)).setCell ⟨gz, 1, none⟩ (.int .i64 la')).setCell ⟨gz, 2, none⟩ (.bool do') = w9 at HAZ q1 ⊢
            clear y0 y1 y2 d0 d1 d2 z0 z1 z2
            refine (Clause_c _ p b ⟨R', la', do'⟩ HAZ.out.1 HAZ.out.2.2.2.2.1 z.id hidb).mono ?_
            rintro e w10 ⟨v10, rfl, hv10, hx10⟩
            obtain ⟨A10, n10, c10, rfl, hs10, _⟩ := hv10.slc (by
              cases hg : getR R' z.id with
              | none => simp
              | some cl => have := (HAZ.out.2.2.2.2.1.wide _ (getR_mem hg)).1; dsimp only at this; simp; omega) (fun y hy => by
              cases hg : getR R' z.id with
              | none => rw [hg] at hy; simp at hy
              | some cl => rw [hg] at hy; have := (HAZ.out.2.2.2.2.1.wide _ (getR_mem hg)).2 y (by simpa using hy); omega)
            have HS10 := Lib.hid hs10
            have HX10 := Lib.hid hx10
            have HAZ10 := Lib.hid (HAZ.out.ext hx10)
            have q1 := hx10.cell q1
            clear hv10 hs10 hx10
            have HBA := Lib.hid HAZ10.out.2.1
            have b0 := HBA.out.cell 0
            have b1 := HBA.out.cell 1
            have b2 := HBA.out.cell 2
            obtain ⟨g, hg⟩ : ∃ g, getR R' z.id = g := ⟨_, rfl⟩
            have HG := Lib.hid hg
            rw [hg] at HS10 ⊢
            clear hg
            have HRN : Hid (RowsN w10 A5 n5 R') := HAZ10.out.2.2.1.toN HAZ10.out.2.2.2.2.2.2
            have HIB : Hid (∀ q ∈ R', 1 ≤ q.1 ∧ q.1 ≤ 10000000) := fun q hq => by have e1 := HAZ10.out.2.2.2.2.1.ids q hq; have e2 := HAZ10.out.2.2.2.2.1.low; dsimp only at e1 e2; omega
            have hn5 : n5 ≤ 100000 := by have e1 := HRN.out.1; have e2 := HAZ10.out.2.2.2.2.2.1; omega
            go_wp2_with fail
            obtain ⟨sb, hsb⟩ : ∃ sb, g.isSome = sb := ⟨_, rfl⟩
            have HSB := Lib.hid hsb
            rw [hsb]
            clear hsb
            go_cut [19, 20] (fun s19 s20 wx => ∃ (A11 : Option Addr) (n11 c11 : Nat), s19 = .slice A11 n11 c11 ∧ s20 = .bool sb ∧ IntSl wx A11 n11 (g.getD []) ∧ Ext w10 wx)
            case first =>
             go_region_law
              ((first
                | (go_simp; (with_reducible refine (r11Find_c A5 n5 c5 R' la' do' z.id _ (HRN.out.ext (Ext.drew (Ext.refl w10)))).mono ?_); rintro _ w11 ⟨A11, n11, c11, rfl, hs11, _, hx11⟩; rw [HG.out] at hs11 ⊢; have HS11 := Lib.hid (hs11.ext hx11); have HX11 : Hid (Ext w10 w11) := (Ext.drew (Ext.refl w10)).trans hx11; rw [HSB.out]; clear hs11 hx11)))
             all_goals
              go_wp2_with fail
              go_meet
              exact ⟨A11, n11, c11, rfl, rfl, HS11.out, HX11.out⟩
            case rest =>
              obtain ⟨A11, n11, c11, rfl, rfl, hs11, hx11⟩ := hcut
              generalize wc = w11 at hs11 hx11 ⊢
              have HS11 := Lib.hid hs11
              have HX11 := Lib.hid hx11
              clear hs11 hx11
              clear b0 b1 b2 q1
              have HAZ11 := Lib.hid (HAZ10.out.ext HX11.out)
              have HBB := Lib.hid HAZ11.out.2.1
              have b0 := HBB.out.cell 0
              have b1 := HBB.out.cell 1
              have b2 := HBB.out.cell 2
              have HRN11 := Lib.hid (HRN.out.ext HX11.out)
              have HS12 := Lib.hid (HS10.out.ext HX11.out)
              have HCM : Hid (CMem w11 p b ⟨R', la', do'⟩) := HAZ11.out.1
              have HIN : Hid (Inv11 ⟨R', la', do'⟩) := HAZ11.out.2.2.2.2.1
              go_wp2_with fail
              go_cut [139] (fun s wx => s = .bool false ∧ Ext w11 wx)
              case first =>
               go_region_held3 (fun w' => w'.cell? ⟨gz, 0, none⟩ = some (.slice A5 n5 c5) ∧ w'.cell? ⟨gz, 1, none⟩ = some (.int .i64 la') ∧ w'.cell? ⟨gz, 2, none⟩ = some (.bool do'))
                (first | exact ⟨b0, b1, b2⟩ | exact ⟨(Ext.cell ((Ext.refl _).drew) b0), (Ext.cell ((Ext.refl _).drew) b1), (Ext.cell ((Ext.refl _).drew) b2)⟩ | with_reducible assumption | (go_split_ands; refine ⟨?_, ?_, ?_⟩ <;> with_reducible assumption))
                ((first
                  | (go_at_call 15; (with_reducible refine (ids_c _ p b ⟨R', la', do'⟩ (HCM.out.ext (Ext.drew (Ext.refl w11))) HIN.out).mono ?_); rintro _ w13 ⟨v13, rfl, hv13, hx13⟩; obtain ⟨A13, n13, c13, rfl, hs13, _⟩ := hv13.slc (by show (idsR R').length ≤ _; rw [idsR_len]; have := HRN11.out.1; omega) (fun y hy => by obtain ⟨q, hq, rfl⟩ := List.mem_map.1 hy; have := HIB.out q hq; omega); have HX13 : Hid (Ext w11 w13) := (Ext.drew (Ext.refl w11)).trans hx13; have HS13 := Lib.hid hs13; have b0 := HX13.out.cell b0; have b1 := HX13.out.cell b1; have b2 := HX13.out.cell b2; clear hx13 hs13 hv13)
                  | (go_at_call 14; (with_reducible refine (r11SameIds_c A5 n5 c5 R' la' do' A13 n13 c13 (idsR R') _ (HRN11.out.ext HX13.out) HIB.out (by omega) HS13.out).mono ?_); rintro _ w14 ⟨rfl, hx14⟩; rw [sameV_reflZ]; have HX14 : Hid (Ext w11 w14) := HX13.out.trans hx14; have b0 := hx14.cell b0; have b1 := hx14.cell b1; have b2 := hx14.cell b2; clear hx14)
                  | (go_at_call 16; (with_reducible refine (done_c _ p b ⟨R', la', do'⟩ (HCM.out.ext HX14.out)).mono ?_); rintro _ w15 ⟨rfl, rfl⟩)
                  | (go_at_call 17; (with_reducible refine (same_c _ _ _ (g.getD []) _ _ _ (g.getD []) _ (HS12.out.ext HX14.out) (HS11.out.ext HX14.out)).mono ?_); rintro _ w16 ⟨rfl, hx16⟩; rw [sameV_reflZ]; have HX16 : Hid (Ext w11 w16) := HX14.out.trans hx16; have b0 := hx16.cell b0; have b1 := hx16.cell b1; have b2 := hx16.cell b2; clear hx16)))
               all_goals
                go_wp2_with fail
                go_meet
                exact ⟨rfl, HX16.out⟩
              case rest =>
                obtain ⟨rfl, hx16⟩ := hcut
                generalize wc = w16 at hx16 ⊢
                have HAZ16 := Lib.hid (HAZ11.out.ext hx16)
                clear hx16 b0 b1 b2
                go_wp2_with fail
                go_roundw
                case rel => exact ⟨k + 1, R', la', do', A5, n5, c5, by omega, by go_num, HAZ16.out⟩
                case measure => simp [intOf]; omega
        · go_wp2_with fail
          refine (awake11_c _).mono ?_
          rintro e w6 ⟨rfl, hx6⟩
          have HX6 := Lib.hid (HX.out.trans hx6)
          clear hx6
          go_wp2_with fail
          go_ret
          exact ⟨rfl, HX6.out⟩
    · rw [if_pos hfc] at hret
      obtain ⟨rfl, hx4⟩ := hret
      have HX4 := Lib.hid (HX3.out.trans hx4)
      have HB4 := Lib.hid (HB3.out.ext hx4)
      have d0 := HB4.out.cell 0
      have d1 := HB4.out.cell 1
      clear hx4 c0 c1
      go_wp2_with fail
      refine (r11New_c x _ _ _ L w _ HFO.out HX4.out (by omega)).mono ?_
      rintro e w5 ⟨A1, n1, cc1, last1, done1, rfl, _, hx5⟩
      have HX5 := Lib.hid (HX4.out.trans hx5)
      have hb : ((fCheckV x L).2 == 0) = false := by simpa using hfc
      have hb2 : ((fCheckV x L).2 != 0) = true := by simpa using hfc
      generalize (fCheckV x L).2 = q at hb hb2 ⊢
      clear hx5 hfc d0 d1
      have HXZ : Hid (Ext w (w5.alloc (Obj.cells #[.slice A1 n1 cc1, .int .i64 last1, .bool done1] 38))) := HX5.out.alloc _
      go_wp2_with fail
      go_loopw [4, 13, 14, 15, 16, 17, 18, 19, 20] (fun _ i _ _ _ _ _ _ _ wr => i = .int .i64 0 ∧ Ext w wr) (fun _ _ _ _ _ _ _ _ _ _ => 0)
      case atStart => exact ⟨rfl, HXZ.out⟩
      case round =>
        obtain ⟨rfl, hx⟩ := hrel
        have HX := Lib.hid hx
        clear hx
        by_cases h0 : 0 < n'
        · have h0b : decide (0 < n') = true := decide_eq_true h0
          have h0i : (0 : Int) < (n' : Int) := by omega
          go_wp2_with fail
          refine (awake11_c _).mono ?_
          rintro e w6 ⟨rfl, hx6⟩
          have HX6 := Lib.hid (HX.out.trans hx6)
          clear hx6
          go_wp2_with fail
          go_ret
          exact ⟨rfl, HX6.out⟩
        · have h0b : decide (0 < n') = false := decide_eq_false h0
          have h0i : decide ((0 : Int) < (n' : Int)) = false := decide_eq_false (by omega)
          clear h0
          go_wp2_with fail
          refine (awake11_c _).mono ?_
          rintro e w6 ⟨rfl, hx6⟩
          have HX6 := Lib.hid (HX.out.trans hx6)
          clear hx6
          go_wp2_with fail
          go_ret
          exact ⟨rfl, HX6.out⟩
end Go.Proofs.YtdgflniahoidmaaGreat
