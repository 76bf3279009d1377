/- TrailPlays answers true. -/
import Derived.Test.YtbkimfefbdfkbaaTrailAwake
import Derived.Test.YtbkimfefbdfkbaaTrail13
import Derived.Test.YtbkimfefbdfkbaaActs13
import Derived.Deep.RegionHeld3
import Derived.Deep.DeepCutAuto
set_option maxRecDepth 100000
namespace Go.Proofs.Ytbkimfefbdfkbaa
open Go.RowKit

theorem TrF.type {w : World} {base p gm : Nat} {lv bv : Value} {S : TSt} {N : Nat} (h : TrS w base p gm lv bv S N) {g : Nat} {t : TypeId} {cs : Array Value} (hg : Blk w g t cs) (h1 : 77 ≠ t) (h2 : 90 ≠ t) (h3 : 3 ≠ t) : ¬ TrF p gm lv bv g := by
  obtain ⟨bs, vars, _, hm, _⟩ := h.mem
  obtain ⟨cs', hgm, _⟩ := hm.mks
  rintro (rfl | rfl | hf | hf)
  · exact hm.blk.ne_ hg h1 rfl
  · exact hgm.ne_ hg h2 rfl
  · exact hm.lits.ne_blk hg h3 hf
  · exact hm.beg.ne_blk hg h3 hf
theorem RowsT.keep {w w' : World} {base p gm b : Nat} {lv bv : Value} {S : TSt} {N : Nat} (h : TrS w base p gm lv bv S N) {sv : Value} {rows : List TRow} (hr : RowsT w b sv rows) (hs : Stay (TrF p gm lv bv) w w') : RowsT w' b sv rows := by
  refine OwnV.stay hr hs fun k e => ?_
  rcases hr.2 with ⟨rfl, _⟩ | ⟨g, cap, cur, rfl, _, hgg, _⟩
  · cases e
  · have : g = k := Option.some.inj e
    subst this
    exact TrF.type h (t := 49) hgg (by decide) (by decide) (by decide)

theorem TrS.stay {w w' : World} {base p gm : Nat} {lv bv : Value} {S : TSt} {N : Nat} {G : Nat → Prop} (h : TrS w base p gm lv bv S N) (hs : Stay G w w') (hG : ∀ b, TrF p gm lv bv b → ¬ G b) : TrS w' base p gm lv bv S N := by
  obtain ⟨bs, vars, hv, hm, hb⟩ := h.mem
  exact ⟨⟨bs, vars, hv, hm.same (fun b hb hf => hs.block b hb (hG b hf)), hb⟩, h.inv, h.n, h.d⟩
theorem OwnI.toSl {w : World} {b n c : Nat} {A : Option Addr} {xs : List Int} (h : OwnI w b (.slice A n c) xs) (hn : xs.length ≤ 9223372036854775807) (hx : ∀ x ∈ xs, -9223372036854775808 ≤ x ∧ x ≤ 9223372036854775807) : IntSl w A n xs := by
  obtain ⟨A', n', c', e, hs⟩ := h.sl hn hx
  injection e with e1 e2 e3
  subst e1 e2
  exact hs
theorem doL_len9 {S : TSt} {a : ActT} {k : Nat} (h : S.rows.length ≤ k) (hk : k ≤ 1000000000 := by omega) : (doL S a).length ≤ 9223372036854775807 := by
  have := doL_len S a; omega
theorem RowsT.far {w w' : World} {b g : Nat} {sv : Value} {rows : List TRow} {t : TypeId} {cs : Array Value} (hr : RowsT w b sv rows) (hg : Blk w g t cs) (hne : 49 ≠ t) (hs : Stay (fun x => x = g) w w') : RowsT w' b sv rows :=
  OwnV.stay hr hs fun k e hk => OwnV.ne_blk hr hg hne (e.trans (by rw [hk]))

theorem keep_alloc {w : World} {a : Addr} {o : Obj} {u : Value} (h : w.cell? a = some u) : (w.alloc o).cell? a = some u := (World.cell?_alloc_lt _ _ _ (World.block_lt_of_cell? w a h)).trans h
theorem keep_set {w : World} {p a : Addr} {x u : Value} (h : w.cell? a = some u) (hne : p.block ≠ a.block) : (w.setCell p x).cell? a = some u := (World.cell?_setCell_other w p a x (fun e => hne (by rw [e]))).trans h
theorem keep_drew {w : World} {a : Addr} {u : Value} (h : w.cell? a = some u) : w.drew.cell? a = some u := h

theorem way1 {w3 w4 : World} {x y : Int} {sv v : Value} {rows : List TRow} {xs : List Int} (hr4 : RowsT w4 0 sv rows) (ho4 : OwnI w4 w3.heap.size v xs) (hx : Ext w3 w4) :
    Blk (w4.alloc (Obj.cells #[.int .i64 x, sv, .int .i64 y] 30)) w4.heap.size 30 #[.int .i64 x, sv, .int .i64 y] ∧ w3.heap.size ≤ w4.heap.size ∧ RowsT (w4.alloc (Obj.cells #[.int .i64 x, sv, .int .i64 y] 30)) 0 sv rows ∧ OwnI (w4.alloc (Obj.cells #[.int .i64 x, sv, .int .i64 y] 30)) w3.heap.size v xs ∧ Ext w3 (w4.alloc (Obj.cells #[.int .i64 x, sv, .int .i64 y] 30)) :=
  ⟨Blk.new w4 _ _, hx.size_le, RowsT.ext hr4 ((Ext.refl w4).alloc _), ho4.alloc _, hx.alloc _⟩
/-- The three cells of block g are written. -/
def set3 (w : World) (g : Nat) (x : Int) (sv : Value) (y : Int) : World := ((w.setCell ⟨g, 0, none⟩ (.int .i64 x)).setCell ⟨g, 1, none⟩ sv).setCell ⟨g, 2, none⟩ (.int .i64 y)
theorem set3_stay (w : World) (g : Nat) (x : Int) (sv : Value) (y : Int) : Stay (fun b => b = g) w (set3 w g x sv y) := by
  exact ((((Stay.refl (fun b => b = g) w).setCell (p := ⟨g, 0, none⟩) (Or.inl rfl) (.int .i64 x)).setCell (p := ⟨g, 1, none⟩) (Or.inl rfl) sv).setCell (p := ⟨g, 2, none⟩) (Or.inl rfl) (.int .i64 y))
theorem set3_blk {w : World} {g : Nat} {a b c : Value} (h : Blk w g 30 #[a, b, c]) (x : Int) (sv : Value) (y : Int) : Blk (set3 w g x sv y) g 30 #[.int .i64 x, sv, .int .i64 y] :=
  ((h.set_ 0 (.int .i64 x)).set_ 1 sv).set_ 2 (.int .i64 y)
theorem set3_ext {w0 w : World} {g : Nat} (h : Ext w0 w) (hg : w0.heap.size ≤ g) (x : Int) (sv : Value) (y : Int) : Ext w0 (set3 w g x sv y) := by
  unfold set3
  refine Ext.setCell ?_ hg _
  refine Ext.setCell ?_ hg _
  refine Ext.setCell ?_ hg _
  exact h
theorem set3_own {w : World} {g b : Nat} {a e c : Value} {v : Value} {xs : List Int} (h : Blk w g 30 #[a, e, c]) (ho : OwnI w b v xs) (x : Int) (sv : Value) (y : Int) : OwnI (set3 w g x sv y) b v xs :=
  OwnI.stay ho (set3_stay w g x sv y) (fun k e hk => ho.ne_blk h (by decide) (e.trans (by rw [hk])))
theorem set3_rows {w : World} {g : Nat} {a e c : Value} {v : Value} {rows : List TRow} (h : Blk w g 30 #[a, e, c]) (hr : RowsT w 0 v rows) (x : Int) (sv : Value) (y : Int) : RowsT (set3 w g x sv y) 0 v rows :=
  OwnV.stay hr (set3_stay w g x sv y) (fun k e hk => OwnV.ne_blk hr h (by decide) (e.trans (by rw [hk])))
theorem set3_tr {w : World} {g base p gm N : Nat} {a e c : Value} {lv bv : Value} {S : TSt} (h : Blk w g 30 #[a, e, c]) (hT : TrS w base p gm lv bv S N) (x : Int) (sv : Value) (y : Int) : TrS (set3 w g x sv y) base p gm lv bv S N :=
  TrS.stay hT (set3_stay w g x sv y) (fun b hf hk => TrF.type hT h (by decide) (by decide) (by decide) (hk ▸ hf))
theorem way2 {w3 w4 : World} {g : Nat} {a b c : Value} {x y : Int} {sv v : Value} {rows : List TRow} {xs : List Int} (hz : Blk w4 g 30 #[a, b, c]) (hr4 : RowsT w4 0 sv rows) (ho4 : OwnI w4 w3.heap.size v xs) (hx : Ext w3 w4) (hg : w3.heap.size ≤ g) :
    Blk (set3 w4 g x sv y) g 30 #[.int .i64 x, sv, .int .i64 y] ∧ w3.heap.size ≤ g ∧ RowsT (set3 w4 g x sv y) 0 sv rows ∧ OwnI (set3 w4 g x sv y) w3.heap.size v xs ∧ Ext w3 (set3 w4 g x sv y) :=
  ⟨set3_blk hz x sv y, hg, set3_rows hz hr4 x sv y, set3_own hz ho4 x sv y, set3_ext hx hg x sv y⟩

set_option maxRecDepth 100000 in
set_option maxHeartbeats 16000000 in
theorem lawTrailPlays_c (vars : Int) (A : Option Addr) (n c : Nat) (l : List ActT) (v : Int) (w : World) (hv1 : -9223372036854775808 ≤ vars) (hv2 : vars ≤ 9223372036854775807) (h : ActsSl w A n l) (_hw1 : -9223372036854775808 ≤ v) (hw2 : v ≤ 9223372036854775807) :
    Calls Try.prog 3 #[.int .i64 vars, .slice A n c, .int .i64 v] w fun e w' => e = .returned (.bool true) ∧ Ext w w' := by
  by_cases h80 : 80 < n
  · go_enter Try.func3, Try.ntmps3
    go_wp2_with fail
    refine (law13awake_c _).mono ?_
    rintro e w1 ⟨rfl, hx1⟩
    go_wp2_with fail
    go_ret
    exact ⟨rfl, hx1⟩
  · by_cases hb : vars < 0 ∨ 100000 < vars
    · have hr1 : (if vars < 0 ∨ 100000 < vars then (0 : Int) else vars) = 0 := if_pos hb
      have hr2 : (if vars < 0 ∨ 100000 < vars then (2 : Int) else 0) = 2 := if_pos hb
      have HB := Lib.hid hb
      clear hb
      go_enter Try.func3, Try.ntmps3
      go_wp2_with fail
      refine (trNew_c vars _).mono ?_
      rintro e w' ⟨hnew, _⟩
      obtain ⟨rfl, rfl⟩ := hnew HB.out
      clear hnew
      go_wp2_with fail
      refine (rNewT_c vars _ hv1 hv2).mono ?_
      rintro e w2 ⟨rfl, hx2⟩
      rw [hr1, hr2]
      go_wp2
      go_loop [11] (fun i => i = .int .i64 0) (fun _ => 0)
      case atStart => rfl
      case round =>
        obtain rfl := hrel
        by_cases hn0 : (0 : Int) < (n : Int)
        all_goals
          go_wp2_with fail
          refine (law13awake_c _).mono ?_
          rintro e w3 ⟨rfl, hx3⟩
          go_wp2_with fail
          go_ret
          exact ⟨rfl, by (repeat (first | with_reducible exact Ext.refl _ | with_reducible apply Ext.alloc | with_reducible apply Ext.drew | with_reducible apply Ext.drewN | (apply Ext.trans'; assumption)))⟩
    · have hr1 : (if vars < 0 ∨ 100000 < vars then (0 : Int) else vars) = vars := if_neg hb
      have hr2 : (if vars < 0 ∨ 100000 < vars then (2 : Int) else 0) = 0 := if_neg hb
      have HB := Lib.hid hb
      clear hb
      go_enter Try.func3, Try.ntmps3
      go_wp2_with fail
      refine (trNew_c vars _).mono ?_
      rintro e w1 ⟨_, hnew⟩
      obtain ⟨p, gm, rfl, hT1, hx1⟩ := hnew HB.out
      have HX1 := Lib.hid hx1
      have HT1 := Lib.hid hT1
      clear hnew hx1 hT1
      go_wp2_with fail
      refine (rNewT_c vars _ hv1 hv2).mono ?_
      rintro e w2 ⟨rfl, hx2⟩
      rw [hr1, hr2]
      have hx2' := HX1.out.trans hx2
      have HX2 := Lib.hid hx2'
      have HT2 := Lib.hid (HT1.out.ext hx2)
      clear hx2 hx2'
      go_wp2
      go_loopw [11] (fun i wr => ∃ (k : Nat) (S : TSt) (lv bv sv : Value), k ≤ n ∧ i = .int .i64 k ∧ S.vars = vars ∧ TrS wr w.heap.size p gm lv bv S k ∧ Blk wr w2.heap.size 30 #[.int .i64 S.vars, sv, .int .i64 S.depth] ∧ RowsT wr 0 sv S.rows ∧ Ext w wr) (fun i _ => n - (intOf i).toNat)
      case atStart =>
        exact ⟨0, ⟨vars, [], 0⟩, _, _, _, Nat.zero_le _, rfl, rfl, HT2.out.ext ((Ext.refl _).alloc _), Blk.new w2 _ _, OwnV.nil _ _ _ _, HX2.out.alloc _⟩
      case round =>
        obtain ⟨k, S, lv, bv, sv, hk, rfl, hSv, hT, hB, hR, hX⟩ := hrel
        have HX := Lib.hid hX
        have HT := Lib.hid hT
        have HB := Lib.hid hB
        have HR := Lib.hid hR
        have HSV := Lib.hid hSv
        clear hX hT hB hR hSv
        by_cases hlt : k < n
        · obtain ⟨ad, a, rfl, ha, hok, c0, c1, c2⟩ := (h.ext HX.out).at_ hlt
          obtain ⟨⟨o1, o2⟩, ⟨o3, o4⟩, ⟨o5, o6⟩⟩ := hok
          have HOK : Hid (okA a) := Lib.hid ⟨⟨o1, o2⟩, ⟨o3, o4⟩, ⟨o5, o6⟩⟩
          go_wp2_with fail
          refine (do13_c _ _ p gm lv bv S k a HT.out (by omega) o3 o4 o6).mono ?_
          rintro e w3 ⟨vm, rfl, hom, lv3, bv3, hT3, hS3, hF3⟩
          have hSi := HT.out.inv
          have hSn := HT.out.n
          have hSd := HT.out.d
          obtain ⟨Am, nm, cm, rfl, hsm⟩ := hom.sl (by have := doL_len S a; omega) (doL_bd hSi a)
          have HOM := Lib.hid hom
          have HX3 := Lib.hid (HT.out.ext_of HX.out (Nat.le_refl _) hS3)
          have HR3 := Lib.hid (RowsT.keep HT.out HR.out hS3)
          have HB3 := Lib.hid (hS3.blk HB.out (TrF.type HT.out HB.out (by decide) (by decide) (by decide)))
          have HT3 := Lib.hid hT3
          have HSM := Lib.hid hsm
          obtain ⟨ad', a', ead, ha', _, d0, d1, d2⟩ := (h.ext HX3.out).at_ hlt
          injection ead with ead
          subst ead
          obtain rfl : a = a' := Option.some.inj (ha.out.symm.trans ha'.out)
          have b0 : w3.cell? ⟨w2.heap.size, 0, none⟩ = some (.int .i64 S.vars) := HB3.out.cell 0
          have b1 := HB3.out.cell 1
          have b2 : w3.cell? ⟨w2.heap.size, 2, none⟩ = some (.int .i64 S.depth) := HB3.out.cell 2
          have m0 := World.new_ne w3 _ d0
          have m6 : (ad.add (k * 3)).block ≠ w2.heap.size := by
            obtain ⟨ad', a', ead, _, _, dd0, _, _⟩ := h.at_ hlt
            injection ead with ead
            subst ead
            have := World.block_lt_of_cell? _ _ dd0
            have := HX2.out.size_le
            omega
          have m7 := m6.symm
          have m1 := World.new_ne w3 _ d1
          have m2 := World.new_ne w3 _ d2
          have m3 := World.new_ne w3 _ b0
          have m4 := World.new_ne w3 _ b1
          have m5 := World.new_ne w3 _ b2
          clear hom hsm hT3 hS3 hF3 c0 c1 c2
          have k0 : (0 : Int) ≤ (k : Int) := by omega
          have k1 : (k : Int) < (n : Int) := by omega
          have hq1 : S.rows.length < 1000000000 := by omega
          have hq2 : S.depth ≤ 1000000000 := by omega
          obtain ⟨Asv, csv, esv, _⟩ := OwnV.len HR3.out
          subst esv
          have b1 : w3.cell? ⟨w2.heap.size, 1, none⟩ = some (.slice Asv S.rows.length csv) := b1
          have HSI := Lib.hid hSi
          have HL := Lib.hid h
          have HSN := Lib.hid hSn
          have HSD := Lib.hid hSd
          go_wp2
          clear hr1 hr2 hSi h hSn hSd o1 o2 o3 o4 o5 o6 hv1 hv2
          go_cut [14, 15, 16] (fun s14 s15 s16 wx => ∃ (gz : Nat) (As4 : Option Addr) (ns4 cs4 : Nat) (A4 : Option Addr) (n4 c4 : Nat), s14 = .pointer (some ⟨gz, 0, none⟩) ∧ s15 = .int .i64 (doE S a) ∧ s16 = .slice A4 n4 c4 ∧ Blk wx gz 30 #[.int .i64 (doS S a).vars, .slice As4 ns4 cs4, .int .i64 (doS S a).depth] ∧ w3.heap.size ≤ gz ∧ RowsT wx 0 (.slice As4 ns4 cs4) (doS S a).rows ∧ OwnI wx w3.heap.size (.slice A4 n4 c4) (doL S a) ∧ Ext w3 wx)
          case first =>
            go_region_held3 (fun w' => w'.cell? ⟨w2.heap.size, 0, none⟩ = some (.int .i64 S.vars) ∧ w'.cell? ⟨w2.heap.size, 1, none⟩ = some (.slice Asv S.rows.length csv) ∧ w'.cell? ⟨w2.heap.size, 2, none⟩ = some (.int .i64 S.depth) ∧ w'.cell? (ad.add (k * 3)) = some (.int .i64 a.kind) ∧ w'.cell? ⟨(ad.add (k * 3)).block, (ad.add (k * 3)).off + 1, none⟩ = some (.int .i64 a.num) ∧ w'.cell? ⟨(ad.add (k * 3)).block, (ad.add (k * 3)).off + 2, none⟩ = some (.int .i64 a.reason))
              (first | with_reducible assumption | (go_split_ands; refine ⟨?_, ?_, ?_, ?_, ?_, ?_⟩ <;> (repeat (first | with_reducible assumption | with_reducible apply keep_alloc | with_reducible apply keep_drew | refine keep_set ?_ (by first | exact m0 | exact m3)))))
              (first
                | (go_at_call 11; (with_reducible refine (refDo13_c _ (.slice Asv S.rows.length csv) S a (RowsT.ext HR3.out ?_) hq1 HSI.out hq2).mono ?_); (repeat (first | with_reducible exact Ext.refl _ | with_reducible apply Ext.alloc | with_reducible apply Ext.drew | with_reducible apply Ext.drewN | (apply Ext.trans'; assumption))); rintro e w4 ⟨sv4, v4, rfl, hr4, ho4, hx4⟩; obtain ⟨As4, ns4, cs4, rfl⟩ := OwnV.form hr4; obtain ⟨A4, n4, c4, rfl⟩ := ho4.form; have HR4 := Lib.hid hr4; have HO4 := Lib.hid (OwnI.less (a := w3.heap.size) ho4 (by first | exact Nat.le_refl _ | simp)); have hx5 : Ext w3 w4 := (by (repeat (first | with_reducible exact Ext.refl _ | with_reducible apply Ext.alloc | with_reducible apply Ext.drew | with_reducible apply Ext.drewN | (apply Ext.trans'; assumption)))); have hb4 := HB3.out.ext hx5; have e0 : w4.cell? ⟨w2.heap.size, 0, none⟩ = some (.int .i64 S.vars) := hb4.cell 0; have e1 : w4.cell? ⟨w2.heap.size, 1, none⟩ = some (.slice Asv S.rows.length csv) := hb4.cell 1; have e2 : w4.cell? ⟨w2.heap.size, 2, none⟩ = some (.int .i64 S.depth) := hb4.cell 2; have y0 := hx5.cell d0; have y1 := hx5.cell d1; have y2 := hx5.cell d2; clear hb4; (first | (have hz := (Blk.drew (Blk.new w3 30 #[.int .i64 0, .slice none 0 0, .int .i64 0])).ext hx4; have z0 := hz.cell 0; have z1 := hz.cell 1; have z2 := hz.cell 2; have f0 := hz.frozen 0; have f1 := hz.frozen 1; have f2 := hz.frozen 2; have HZ := Lib.hid hz; clear hz) | skip); have HX5 := Lib.hid hx5; clear hr4 ho4 hx4 hx5))
            · go_wp2_with fail
              go_meet
              exact ⟨_, As4, ns4, cs4, A4, n4, c4, rfl, rfl, rfl, way1 HR4.out HO4.out HX5.out⟩
            · go_wp2_with fail
              go_meet
              exact ⟨_, As4, ns4, cs4, A4, n4, c4, rfl, rfl, rfl, way2 HZ.out HR4.out HO4.out HX5.out (Nat.le_refl _)⟩
          case rest =>
            obtain ⟨gz, As4, ns4, cs4, A4, n4, c4, rfl, rfl, rfl, hz, hgz, hr4, ho4, hx4⟩ := hcut
            have z0 := hz.cell 0
            have z1 := hz.cell 1
            have z2 := hz.cell 2
            have hb4 := HB3.out.ext hx4
            have q0 := hb4.frozen 0
            have q1 := hb4.frozen 1
            have q2 := hb4.frozen 2
            have e0 := hb4.cell 0
            have e1 := hb4.cell 1
            have e2 := hb4.cell 2
            have y0 := hx4.cell d0
            have y1 := hx4.cell d1
            have y2 := hx4.cell d2
            have hgg : gz ≠ w2.heap.size := by have := HB3.out.lt; omega
            have hgg' : w2.heap.size ≠ gz := Ne.symm hgg
            have HR4 := Lib.hid hr4
            have HO4 := Lib.hid ho4
            have HB4 := Lib.hid hb4
            have HX5 := Lib.hid hx4
            clear b0 b1 b2 d0 d1 d2 hz hr4 ho4 hb4 hx4
            go_wp2_with (first
              | (go_at_call 12; refine (rSplit_c _ _).mono ?_; rintro e w' ⟨rfl, rfl⟩))
            have hse : sameV (doL S a) (doL S a) = true := by simp [sameV]
            have HSE := Lib.hid hse
            clear hse
            have hom4 := HOM.out.ext HX5.out
            have hT4 := HT3.out.ext HX5.out
            have hsm1 := OwnI.toSl (set3_own HB4.out hom4 (doS S a).vars (.slice As4 ns4 cs4) (doS S a).depth) (doL_len9 HSN.out) (doL_bd HSI.out a)
            have hsm2 := OwnI.toSl (set3_own HB4.out HO4.out (doS S a).vars (.slice As4 ns4 cs4) (doS S a).depth) (doL_len9 HSN.out) (doL_bd HSI.out a)
            have HB6 := Lib.hid (set3_blk HB4.out (doS S a).vars (.slice As4 ns4 cs4) (doS S a).depth)
            have HR6 := Lib.hid (set3_rows HB4.out HR4.out (doS S a).vars (.slice As4 ns4 cs4) (doS S a).depth)
            have HT6 := Lib.hid (set3_tr HB4.out hT4 (doS S a).vars (.slice As4 ns4 cs4) (doS S a).depth)
            have HX6 := Lib.hid (set3_ext (HX3.out.trans HX5.out) HX2.out.size_le (doS S a).vars (.slice As4 ns4 cs4) (doS S a).depth)
            clear hom4 hT4
            rw [show ((wc.setCell ⟨w2.heap.size, 0, none⟩ (.int .i64 (doS S a).vars)).setCell ⟨w2.heap.size, 1, none⟩ (.slice As4 ns4 cs4)).setCell ⟨w2.heap.size, 2, none⟩ (.int .i64 (doS S a).depth) = set3 wc w2.heap.size (doS S a).vars (.slice As4 ns4 cs4) (doS S a).depth from rfl]
            with_reducible refine (same_c _ _ _ (doL S a) _ _ _ (doL S a) _ hsm1 hsm2).mono ?_
            rintro e w7 ⟨rfl, hx7⟩
            obtain ⟨W6, hb6, hr6, hT6, hX6, hx7'⟩ : ∃ W6, Blk W6 w2.heap.size 30 #[.int .i64 (doS S a).vars, .slice As4 ns4 cs4, .int .i64 (doS S a).depth] ∧ RowsT W6 0 (.slice As4 ns4 cs4) (doS S a).rows ∧ TrS W6 w.heap.size p gm lv3 bv3 (doS S a) (k + 1) ∧ Ext w W6 ∧ Ext W6 w7 := ⟨_, HB6.out, HR6.out, HT6.out, HX6.out, hx7⟩
            clear HB6 HR6 HT6 HX6 hx7
            rw [HSE.out]
            have hb7 := hb6.ext hx7'
            have x0 := hb7.cell 0
            have x1 := hb7.cell 1
            have x2 := hb7.cell 2
            have hvb := varV_bd a.num
            obtain ⟨hvb1, hvb2⟩ := hvb
            have hvb3 : varV a.num ≤ 9223372036854775807 := by omega
            have hk9 : k + 1 ≤ 1000000000 := by omega
            have HB7 := Lib.hid hb7
            have HR7 := Lib.hid (hr6.ext hx7')
            have HT7 := Lib.hid (hT6.ext hx7')
            have HX7 := Lib.hid (hX6.trans hx7')
            clear hb6 hr6 hT6 hX6 hx7' hb7 e0 e1 e2 y0 y1 y2 q0 q1 q2 z0 z1 z2 hsm1 hsm2
            go_wp2_with fail
            refine (same13_c _ _ p gm lv3 bv3 (doS S a) (k + 1) _ (varV a.num) HT7.out hk9 HR7.out hvb1 hvb3).mono ?_
            rintro e w8 ⟨rfl, hx8⟩
            have hb8 := HB7.out.ext hx8
            have x0 := hb8.cell 0
            have x1 := hb8.cell 1
            have x2 := hb8.cell 2
            have HB8 := Lib.hid hb8
            have HX8 := Lib.hid hx8
            clear hb8 hx8
            by_cases hv0 : 0 ≤ v
            · go_wp2_with fail
              refine (same13_c _ _ p gm lv3 bv3 (doS S a) (k + 1) _ v (HT7.out.ext HX8.out) hk9 (RowsT.ext HR7.out HX8.out) hv0 hw2).mono ?_
              rintro e w9 ⟨rfl, hx9⟩
              have HX9 := Lib.hid hx9
              clear hx9
              go_wp2_with fail
              go_roundw
              case rel => exact ⟨k + 1, doS S a, lv3, bv3, .slice As4 ns4 cs4, by omega, by go_num, by rw [doS_vars]; exact HSV.out, (HT7.out.ext HX8.out).ext HX9.out, HB8.out.ext HX9.out, RowsT.ext (RowsT.ext HR7.out HX8.out) HX9.out, HX7.out.trans (HX8.out.trans HX9.out)⟩
              case measure => simp [intOf]; omega
            · go_wp2_with fail
              go_roundw
              case rel => exact ⟨k + 1, doS S a, lv3, bv3, .slice As4 ns4 cs4, by omega, by go_num, by rw [doS_vars]; exact HSV.out, HT7.out.ext HX8.out, HB8.out, RowsT.ext HR7.out HX8.out, HX7.out.trans HX8.out⟩
              case measure => simp [intOf]; omega
        · go_wp2_with fail
          refine (law13awake_c _).mono ?_
          rintro e w3 ⟨rfl, hx3⟩
          go_wp2_with fail
          go_ret
          exact ⟨rfl, HX.out.trans hx3⟩
end Go.Proofs.Ytbkimfefbdfkbaa
