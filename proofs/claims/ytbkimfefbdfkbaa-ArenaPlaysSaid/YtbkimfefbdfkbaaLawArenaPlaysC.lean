/- ArenaPlays answers true. -/
import Derived.Test.YtbkimfefbdfkbaaAs9
import Derived.Deep.QuietTactic
import Derived.Deep.DeepCutAuto
import Derived.Deep.RegionHeld3
set_option maxRecDepth 100000
namespace Go.Proofs.Ytbkimfefbdfkbaa
open Go.RowKit

/-- The two cells of block g are written. -/
def set2 (w : World) (g : Nat) (x y : Value) : World := (w.setCell ⟨g, 0, none⟩ x).setCell ⟨g, 1, none⟩ y
theorem set2_stay (w : World) (g : Nat) (x y : Value) : Stay (fun b => b = g) w (set2 w g x y) :=
  (((Stay.refl (fun b => b = g) w).setCell (p := ⟨g, 0, none⟩) (Or.inl rfl) x).setCell (p := ⟨g, 1, none⟩) (Or.inl rfl) y)
theorem doL12_bd {S : ASt} (h : AInv S) (hs : (flatA S.rows).length ≤ 1003000000) (hn : S.rows.length ≤ 1000000) (a : ActA) : (doL12 S a).length ≤ 9223372036854775807 ∧ ∀ x ∈ doL12 S a, -9223372036854775808 ≤ x ∧ x ≤ 9223372036854775807 := by
  unfold doL12
  split
  · exact ⟨by have := allA_len S.rows; omega, allA_bd h hs⟩
  · exact ⟨by simp, by simp⟩
theorem way12 {F : Nat → Prop} {w3 w4 : World} {v vr : Value} {y : Int} {R : List ARow} {xs : List Int} (hr4 : RefR F w4 0 vr R) (ho4 : OwnI w4 w3.heap.size v xs) (hx : Ext w3 w4) :
    Blk (w4.alloc (Obj.cells #[vr, .int .i64 y] 58)) w4.heap.size 58 #[vr, .int .i64 y] ∧ w3.heap.size ≤ w4.heap.size ∧ RefR F (w4.alloc (Obj.cells #[vr, .int .i64 y] 58)) 0 vr R ∧ OwnI (w4.alloc (Obj.cells #[vr, .int .i64 y] 58)) w3.heap.size v xs ∧ Ext w3 (w4.alloc (Obj.cells #[vr, .int .i64 y] 58)) :=
  ⟨Blk.new w4 _ _, hx.size_le, hr4.ext ((Ext.refl w4).alloc _), ho4.alloc _, hx.alloc _⟩
theorem way22 {F : Nat → Prop} {w3 w4 : World} {g : Nat} {v vr a b : Value} {y : Int} {R : List ARow} {xs : List Int} (hz : Blk w4 g 58 #[a, b]) (hr4 : RefR F w4 0 vr R) (ho4 : OwnI w4 w3.heap.size v xs) (hx : Ext w3 w4) (hg : w3.heap.size ≤ g) :
    Blk (set2 w4 g vr (.int .i64 y)) g 58 #[vr, .int .i64 y] ∧ w3.heap.size ≤ g ∧ RefR F (set2 w4 g vr (.int .i64 y)) 0 vr R ∧ OwnI (set2 w4 g vr (.int .i64 y)) w3.heap.size v xs ∧ Ext w3 (set2 w4 g vr (.int .i64 y)) :=
  ⟨(hz.set_ 0 vr).set_ 1 (.int .i64 y), hg, RefR.setCell (RefR.setCell hr4 hz (by decide) (by decide) 0 _) (hz.set_ 0 _) (by decide) (by decide) 1 _,
    ho4.stay (set2_stay w4 g _ _) (fun k e hk => ho4.ne_blk hz (by decide) (e.trans (by rw [hk]))), (hx.setCell (p := ⟨g, 0, none⟩) hg _).setCell (p := ⟨g, 1, none⟩) hg _⟩

theorem ArMem.set2A {w : World} {base p mb K X : Nat} {lv : Value} {S : ASt} (h : ArMem w base p mb lv K S) (hn : ¬ ArF p mb lv X) (x y : Value) : ArMem ((w.setCell ⟨X, 0, none⟩ x).setCell ⟨X, 1, none⟩ y) base p mb lv K S :=
  h.same fun b _ hf => by
    have hne : ∀ j : Nat, b ≠ (⟨X, j, none⟩ : Addr).block := fun j e => hn (by have e2 : b = X := e; rwa [e2] at hf)
    rw [Below.heap_setCell _ ⟨X, 1, none⟩ y b (hne 1), Below.heap_setCell _ ⟨X, 0, none⟩ x b (hne 0)]
theorem ownI_set2A {w : World} {b X : Nat} {v : Value} {xs : List Int} {cs : Array Value} (h : OwnI w b v xs) (hb : Blk w X 58 cs) (x y : Value) : OwnI ((w.setCell ⟨X, 0, none⟩ x).setCell ⟨X, 1, none⟩ y) b v xs := by
  have n1 := h.ne_blk hb (by decide)
  exact (h.setCell (p := ⟨X, 0, none⟩) (fun k hk e => n1 (by rw [hk, e])) x).setCell (p := ⟨X, 1, none⟩) (fun k hk e => n1 (by rw [hk, e])) y

set_option maxRecDepth 100000 in
set_option maxHeartbeats 16000000 in
theorem lawArenaPlays_c (A : Option Addr) (n c : Nat) (l : List ActA) (x : Int) (w : World) (h : Acts12 w A n l) (hxb1 : -9223372036854775808 ≤ x) (hxb2 : x ≤ 9223372036854775807) :
    Calls Try.prog 5 #[.slice A n c, .int .i64 x] w fun e w' => e = .returned (.bool true) ∧ Ext w w' := by
  cases hf : few12V l with
  | false =>
    have HF := Lib.hid hf
    clear hf
    go_enter Try.func5, Try.ntmps5
    go_wp2_with fail
    refine (arNew_c _).mono ?_
    rintro e w1 ⟨rfl, hm1, hx1⟩
    have HX1 := Lib.hid hx1
    have HA := Lib.hid (h.ext hx1)
    clear hm1 hx1
    go_wp2_with fail
    refine (few12_c _ _ _ l _ HA.out).mono ?_
    rintro e w1' ⟨rfl, rfl⟩
    rw [HF.out]
    go_wp2_with fail
    refine (law12awake_c _).mono ?_
    rintro e w2 ⟨rfl, hx2⟩
    go_wp2_with fail
    go_ret
    exact ⟨rfl, HX1.out.trans hx2⟩
  | true =>
    have h80 : n ≤ 80 := by
      have := h.1
      unfold few12V at hf
      simp at hf
      omega
    have H60 : Hid (∀ (k : Nat) (a : ActA), l[k]? = some a → a.lits.length ≤ 60) := Lib.hid fun k a ha => by
      unfold few12V at hf
      simp at hf
      exact hf.2 a (List.mem_of_getElem? ha)
    have HF := Lib.hid hf
    clear hf
    go_enter Try.func5, Try.ntmps5
    go_wp2_with fail
    refine (arNew_c _).mono ?_
    rintro e w1 ⟨rfl, hm1, hx1⟩
    have HX1 := Lib.hid hx1
    have HM1 := Lib.hid hm1
    have HA := Lib.hid h
    have HA1 := Lib.hid (h.ext hx1)
    clear hm1 hx1 h
    go_wp2_with fail
    refine (few12_c _ _ _ l _ HA1.out).mono ?_
    rintro e w1' ⟨rfl, rfl⟩
    rw [HF.out]
    go_wp2_with fail
    generalize hp : w.heap.size + 1 = p at HM1 ⊢
    clear hp
    obtain ⟨X, hX⟩ : ∃ X, w1.heap.size = X := ⟨_, rfl⟩
    have HXV := Lib.hid hX
    have HXA := Lib.hid (HX1.out.alloc (Obj.cells #[.slice none 0 0, .int .i64 0] 58))
    have hnx : ¬ ArF p w.heap.size (.slice none 0 0) X := fun hf => by have := (HM1.out.lt hf).2; omega
    have HMA := Lib.hid (HM1.out.ext ((Ext.refl w1).alloc (Obj.cells #[.slice none 0 0, .int .i64 0] 58)))
    have hbx := Blk.new w1 58 #[.slice none 0 0, .int .i64 0]
    have hwx : w.heap.size ≤ X := by rw [← hX]; exact HX1.out.size_le
    rw [hX] at hbx ⊢
    have HBX := Lib.hid hbx
    have HNX := Lib.hid hnx
    clear hX hbx hnx
    generalize hw2 : w1.alloc (Obj.cells #[.slice none 0 0, .int .i64 0] 58) = w2 at HXA HMA HBX ⊢
    clear hw2
    go_loopw [7, 8, 9, 10, 11, 12, 13, 14] (fun i _ _ _ _ _ _ _ wr => ∃ (k mb : Nat) (S : ASt) (lv xv : Value), k ≤ n ∧ i = .int .i64 k ∧ ArMem wr w.heap.size p mb lv k S ∧ Blk wr X 58 #[xv, .int .i64 S.size] ∧ RefR (ArF p mb lv) wr 0 xv S.rows ∧ ¬ ArF p mb lv X ∧ Ext w wr) (fun i _ _ _ _ _ _ _ _ => n - (intOf i).toNat)
    case atStart => exact ⟨0, _, _, _, _, Nat.zero_le _, rfl, HMA.out, HBX.out, RefR.nil _ _ _, HNX.out, HXA.out⟩
    case round =>
      obtain ⟨k, mb, S, lv, xv, hk, rfl, hm, hbx, hrr, hnx, hXw⟩ := hrel
      obtain ⟨Ax, cx, rfl, _⟩ := RefR.len hrr
      have HM := Lib.hid hm
      have HB := Lib.hid hbx
      have HRR := Lib.hid hrr
      have HNX := Lib.hid hnx
      have HX := Lib.hid hXw
      clear hm hbx hrr hnx hXw HMA HBX HXA
      by_cases hlt : k < n
      · obtain ⟨ad, a, A', n', c', rfl, ha, hok, d0, d1, d2, d3, d4, d5, hl', hnc⟩ := HA.out.at_ hlt
        have h60 := H60.out k a ha.out
        have hn' : n' ≤ 60 := by have := hl'.1; omega
        have c0 := HX.out.cell d0
        have c1 := HX.out.cell d1
        have c2 := HX.out.cell d2
        have c3 := HX.out.cell d3
        have c4 := HX.out.cell d4
        have c5 := HX.out.cell d5
        have HOK := Lib.hid hok
        have HL := Lib.hid (hl'.ext HX.out)
        have HLW := Lib.hid hl'
        have hout : 0 < n' → Out (ArF p mb lv) A' := fun h0 ad' e hf => by
          have h1 := hl'.old h0 ad' e
          have h2 := (HM.out.lt hf).1
          omega
        have hsm : S.rows.length ≤ 1000000 := by have := HM.out.sm; omega
        have HINV := Lib.hid HM.out.inv
        have HFLT := Lib.hid HM.out.len
        have HLB := Lib.hid (doL12_bd HM.out.inv HM.out.len hsm a)
        clear hok hl' h60
        go_wp2_with fail
        refine (do12_c _ _ p mb lv k S a _ _ _ HM.out HOK.out HL.out hout (by omega)).mono ?_
        rintro e w3 ⟨v3, rfl, ho3, hn⟩
        have HX3 := Lib.hid (ArNext.thr HM.out (Nat.le_refl _) HX.out hn)
        obtain ⟨A3, n3, cp3, rfl⟩ := ho3.form
        obtain ⟨lv3, mb3, hm3, hs3, hn3⟩ := hn
        have HM3 := Lib.hid hm3
        have HO3 := Lib.hid ho3
        have HB3 := Lib.hid (hs3.blk HB.out HNX.out)
        have HR3 := Lib.hid (HRR.out.next hs3 hn3)
        have HN3 : Hid (¬ ArF p mb3 lv3 X) := Lib.hid fun hf => by
          rcases hn3 X hf with h1 | h1
          · exact HNX.out h1
          · have := HB.out.lt; omega
        have HFB := Lib.hid (fun b (hb : ArF p mb3 lv3 b) => (hm3.lt hb).2)
        have e0 := HX3.out.cell d0
        have e1 := HX3.out.cell d1
        have e2 := HX3.out.cell d2
        have e3 := HX3.out.cell d3
        have e4 := HX3.out.cell d4
        have e5 := HX3.out.cell d5
        have b0 := HB3.out.cell 0
        have b1 := HB3.out.cell 1
        have HL3 := Lib.hid (HLW.out.ext HX3.out)
        have k0 : (0 : Int) ≤ (k : Int) := by omega
        have k1 : (k : Int) < (n : Int) := by omega
        simp at b0 b1
        have m0 : w3.heap.size ≠ X := by have := HB3.out.lt; omega
        have m3 : w3.heap.size ≠ (ad.add (k * 6)).block := by have := World.block_lt_of_cell? _ _ e0; omega
        clear hm3 ho3 hs3 hn3 c0 c1 c2 c3 c4 c5 d0 d1 d2 d3 d4 d5 hout
        go_wp2_with fail
        go_cut [11, 12, 13, 14] (fun s11 s12 s13 s14 wx => ∃ (gz : Nat) (A4 : Option Addr) (n4 c4 : Nat) (A5 : Option Addr) (n5 c5 : Nat), s11 = .pointer (some ⟨gz, 0, none⟩) ∧ s12 = .int .i64 (doP12 S a) ∧ s13 = .int .i64 (doE12 S a) ∧ s14 = .slice A5 n5 c5 ∧ Blk wx gz 58 #[.slice A4 n4 c4, .int .i64 (doS12 S a).size] ∧ w3.heap.size ≤ gz ∧ RefR (ArF p mb3 lv3) wx 0 (.slice A4 n4 c4) (doS12 S a).rows ∧ OwnI wx w3.heap.size (.slice A5 n5 c5) (doL12 S a) ∧ Ext w3 wx)
        case first =>
          go_region_held3 (fun w' => w'.cell? ⟨X, 0, none⟩ = some (.slice Ax S.rows.length cx) ∧ w'.cell? ⟨X, 1, none⟩ = some (.int .i64 S.size) ∧ w'.cell? (ad.add (k * 6)) = some (.int .i64 a.kind) ∧ w'.cell? ⟨(ad.add (k * 6)).block, (ad.add (k * 6)).off + 1, none⟩ = some (.int .i64 a.num) ∧ w'.cell? ⟨(ad.add (k * 6)).block, (ad.add (k * 6)).off + 2, none⟩ = some (.int .i64 a.i1) ∧ w'.cell? ⟨(ad.add (k * 6)).block, (ad.add (k * 6)).off + 3, none⟩ = some (.int .i64 a.i2) ∧ w'.cell? ⟨(ad.add (k * 6)).block, (ad.add (k * 6)).off + 4, none⟩ = some (.slice A' n' c') ∧ w'.cell? ⟨(ad.add (k * 6)).block, (ad.add (k * 6)).off + 5, none⟩ = some (.bool a.learnt))
            (first | with_reducible assumption | (go_split_ands; refine ⟨?_, ?_, ?_, ?_, ?_, ?_, ?_, ?_⟩ <;> (repeat (first | with_reducible assumption | with_reducible apply keep_allocK | with_reducible apply keep_drewK | refine keep_setK ?_ (by first | exact m0 | exact m3)))))
            (first
              | (go_at_call 27; (with_reducible refine (refDo12_c (ArF p mb3 lv3) _ (.slice Ax S.rows.length cx) S a A' n' c' (RefR.ext HR3.out ?_) (fun b hb => Nat.lt_of_lt_of_le (HFB.out b hb) (Ext.size_le ?_)) hsm HINV.out HFLT.out (IntSl.ext HL3.out ?_) hnc (by omega)).mono ?_); (repeat (first | with_reducible exact Ext.refl _ | with_reducible apply Ext.alloc | with_reducible apply Ext.drew | with_reducible apply Ext.drewN | (apply Ext.trans'; assumption))); rintro e w4 ⟨A4, n4, c4, v4, rfl, hr4, ho4, hx4⟩; obtain ⟨A5, n5, c5, rfl⟩ := ho4.form; have HR4 := Lib.hid hr4; have HO4 := Lib.hid (OwnI.less (a := w3.heap.size) ho4 (by first | exact Nat.le_refl _ | simp)); have hx5 : Ext w3 w4 := (by (repeat (first | with_reducible exact Ext.refl _ | with_reducible apply Ext.alloc | with_reducible apply Ext.drew | with_reducible apply Ext.drewN | (apply Ext.trans'; assumption)))); have hb4 := HB3.out.ext hx5; have q0 : w4.cell? ⟨X, 0, none⟩ = some (.slice Ax S.rows.length cx) := hb4.cell 0; have q1 : w4.cell? ⟨X, 1, none⟩ = some (.int .i64 S.size) := hb4.cell 1; have y0 := hx5.cell e0; have y1 := hx5.cell e1; have y2 := hx5.cell e2; have y3 := hx5.cell e3; have y4 := hx5.cell e4; have y5 := hx5.cell e5; clear hb4; (first | (have hz := (Blk.drewK (Blk.new w3 58 #[.slice none 0 0, .int .i64 0])).ext hx4; have z0 := hz.cell 0; have z1 := hz.cell 1; have f0 := hz.frozen 0; have f1 := hz.frozen 1; have HZ := Lib.hid hz; clear hz) | skip); have HX5 := Lib.hid hx5; clear hr4 ho4 hx4 hx5))
          · go_wp2_with fail
            go_meet
            exact ⟨_, A4, n4, c4, A5, n5, c5, rfl, rfl, rfl, rfl, way12 HR4.out HO4.out HX5.out⟩
          · go_wp2_with fail
            go_meet
            exact ⟨_, A4, n4, c4, A5, n5, c5, rfl, rfl, rfl, rfl, way22 HZ.out HR4.out HO4.out HX5.out (Nat.le_refl _)⟩
        case rest =>
          obtain ⟨gz, A4, n4, c4, A5, n5, c5, rfl, rfl, rfl, rfl, hz, hgz, hr4, ho4, hx4⟩ := hcut
          have z0 := hz.cell 0
          have z1 := hz.cell 1
          have hb4 := HB3.out.ext hx4
          have q0 := hb4.frozen 0
          have q1 := hb4.frozen 1
          have t0 := hb4.cell 0
          have t1 := hb4.cell 1
          simp at z0 z1 t0 t1
          have hsm5 : (doS12 S a).rows.length ≤ 1000000 := by have := HM3.out.sm; omega
          have hm5 := (HM3.out.ext hx4).set2A HN3.out (.slice A4 n4 c4) (.int .i64 (doS12 S a).size)
          have hr5 : RefR (ArF p mb3 lv3) ((wc.setCell ⟨X, 0, none⟩ (.slice A4 n4 c4)).setCell ⟨X, 1, none⟩ (.int .i64 (doS12 S a).size)) 0 (.slice A4 n4 c4) (doS12 S a).rows := RefR.setCell (RefR.setCell hr4 hb4 (by decide) (by decide) 0 _) (hb4.set_ 0 _) (by decide) (by decide) 1 _
          have ho35 := ownI_set2A (HO3.out.ext hx4) hb4 (.slice A4 n4 c4) (.int .i64 (doS12 S a).size)
          have ho45 := ownI_set2A ho4 hb4 (.slice A4 n4 c4) (.int .i64 (doS12 S a).size)
          have hb5 := (hb4.set_ 0 (.slice A4 n4 c4)).set_ 1 (.int .i64 (doS12 S a).size)
          have hX5 := ((HX3.out.trans hx4).setCell (p := ⟨X, 0, none⟩) hwx (.slice A4 n4 c4)).setCell (p := ⟨X, 1, none⟩) hwx (.int .i64 (doS12 S a).size)
          have H5 := Lib.hid (⟨hm5, hr5, ho35, ho45, hb5, hX5⟩ : _ ∧ _ ∧ _ ∧ _ ∧ _ ∧ _)
          clear hz hr4 ho4 hx4 hb4 hm5 hr5 ho35 ho45 hb5 hX5 e0 e1 e2 e3 e4 e5 b0 b1
          go_wp2_with fail
          obtain ⟨hm5, hr5, ho35, ho45, hb5, hX5⟩ := H5.out
          clear H5
          generalize (wc.setCell ⟨X, 0, none⟩ (.slice A4 n4 c4)).setCell ⟨X, 1, none⟩ (.int .i64 (doS12 S a).size) = w5 at hm5 hr5 ho35 ho45 hb5 hX5 ⊢
          refine (same_c _ _ _ (doL12 S a) _ _ _ (doL12 S a) _ (ownI_sl ho35 HLB.out.1 HLB.out.2) (ownI_sl ho45 HLB.out.1 HLB.out.2)).mono ?_
          rintro e w6 ⟨rfl, hx6⟩
          rw [sameV_refl12]
          have hb6 := hb5.ext hx6
          have y0 := hb6.cell 0
          have y1 := hb6.cell 1
          simp at y0 y1
          have HM6 := Lib.hid (hm5.ext hx6)
          have HR6 := Lib.hid (hr5.ext hx6)
          have HB6 := Lib.hid hb6
          have HX6 := Lib.hid (hX5.trans hx6)
          clear hb6 hm5 hr5 ho35 ho45 hb5 hX5 hx6
          go_wp2_with fail
          refine (same12_c (ArF p mb3 lv3) _ _ p mb3 lv3 (k + 1) (doS12 S a) _ HM6.out HR6.out hsm5).mono ?_
          rintro e w7 ⟨rfl, hx7⟩
          have HX7 := Lib.hid hx7
          clear hx7 y0 y1
          go_wp2_with fail
          go_roundw
          case rel => exact ⟨k + 1, mb3, doS12 S a, lv3, .slice A4 n4 c4, by omega, by go_num, HM6.out.ext HX7.out, by simpa using HB6.out.ext HX7.out, HR6.out.ext HX7.out, HN3.out, HX6.out.trans HX7.out⟩
          case measure => simp [intOf]; omega
      · have hsm : S.rows.length ≤ 1000000 := by have := HM.out.sm; omega
        have y0 := HB.out.cell 0
        have y1 := HB.out.cell 1
        simp at y0 y1
        cases hfd : S.rows.find? (atP x) with
        | some r =>
          obtain ⟨i, hi, _⟩ := find_at hfd
          have HFA := Lib.hid (findA_some hi)
          have hneg : decide ((i : Int) < 0) = false := decide_eq_false (by omega)
          clear hfd hi
          go_wp2_with fail
          refine (rFind_c _ _ 0 _ S.rows S.size x HRR.out hsm).mono ?_
          rintro e w3 ⟨rfl, hx3⟩
          rw [HFA.out]
          have HX3 := Lib.hid (HX.out.trans hx3)
          clear hx3
          go_wp2_with fail
          refine (law12awake_c _).mono ?_
          rintro e w9 ⟨rfl, hx9⟩
          go_wp2_with fail
          go_ret
          exact ⟨rfl, HX3.out.trans hx9⟩
        | none =>
          have HFA := Lib.hid (findA_none hfd)
          have HHA : Hid (headA S.rows x = 0) := Lib.hid ((head_pos HM.out.inv x).2 hfd)
          have HLA : Hid (litsA S.rows x = []) := Lib.hid (by unfold litsA; rw [hfd])
          have HLE : Hid (learntA S.rows x = false) := Lib.hid (by unfold learntA; rw [hfd])
          have HDE : Hid (dropE S x = 20) := Lib.hid (by unfold dropE; rw [hfd])
          have HDS : Hid (dropS S x = S) := Lib.hid (by unfold dropS; rw [HDE.out, if_neg (by decide)])
          have HSE : Hid (swapE S x 0 0 = 20) := Lib.hid (by unfold swapE; rw [hfd])
          clear hfd
          go_wp2_with fail
          refine (rFind_c _ _ 0 _ S.rows S.size x HRR.out hsm).mono ?_
          rintro e w3 ⟨rfl, hx3⟩
          rw [HFA.out]
          have HM3 := Lib.hid (HM.out.ext hx3)
          have HX3 := Lib.hid (HX.out.trans hx3)
          clear hx3
          go_wp2_with fail
          refine (arId_c _ _ p mb lv k S x HM3.out ⟨hxb1, hxb2⟩).mono ?_
          rintro e w4 ⟨rfl, rfl⟩
          rw [HHA.out]
          go_wp2_with fail
          refine (arLits_c _ _ p mb lv k S x HM3.out ⟨hxb1, hxb2⟩).mono ?_
          rintro e w4 ⟨v4, rfl, ho4, hx4⟩
          rw [HLA.out] at ho4
          obtain ⟨A4, n4, c4, rfl⟩ := ho4.form
          obtain rfl : n4 = 0 := ho4.slen
          have HM4 := Lib.hid (HM3.out.ext hx4)
          have HX4 := Lib.hid (HX3.out.trans hx4)
          clear ho4 hx4
          go_wp2_with fail
          refine (arLearnt_c _ _ p mb lv k S x HM4.out ⟨hxb1, hxb2⟩).mono ?_
          rintro e w5 ⟨rfl, rfl⟩
          rw [HLE.out]
          go_wp2_with fail
          refine (arDrop_c _ _ p mb lv k S x HM4.out ⟨hxb1, hxb2⟩ (by omega)).mono ?_
          rintro e w5 ⟨rfl, hn⟩
          rw [HDS.out] at hn
          rw [HDE.out]
          have HX5 := Lib.hid (ArNext.thr HM4.out (Nat.le_refl _) HX4.out hn)
          obtain ⟨lv5, mb5, hm5, _, _⟩ := hn
          have HM5 := Lib.hid hm5
          clear hm5
          go_wp2_with fail
          refine (arSwap_c _ _ p mb5 lv5 (k + 1) S x 0 0 HM5.out ⟨hxb1, hxb2⟩ (by omega)).mono ?_
          rintro e w6 ⟨rfl, hn⟩
          rw [HSE.out]
          have HX6 := Lib.hid (ArNext.thr HM5.out (Nat.le_refl _) HX5.out hn)
          clear hn
          go_wp2_with fail
          refine (law12awake_c _).mono ?_
          rintro e w9 ⟨rfl, hx9⟩
          go_wp2_with fail
          go_ret
          exact ⟨rfl, HX6.out.trans hx9⟩
end Go.Proofs.Ytbkimfefbdfkbaa
