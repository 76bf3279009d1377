/- Layer 12 (arena): the reference's Swap, where it swaps. -/
import Derived.Test.YtbkimfefbdfkbaaAs5
set_option maxRecDepth 100000
namespace Go.Proofs.Ytbkimfefbdfkbaa
open Go.RowKit

theorem OwnI.toV {w : World} {b : Nat} {v : Value} {xs : List Int} (h : OwnI w b v xs) : OwnV w b 3 1 v xs.length (xs.map (Value.int .i64)) := h
theorem own_blk0I {w : World} {b g : Nat} (hg : b ≤ g) (hB : Blk w g 3 #[]) : OwnI w b (.slice (some ⟨g, 0, none⟩) 0 0) [] := own_blk0 1 hg hB
theorem OwnI.cellI {w : World} {b g n cap j : Nat} {xs : List Int} {x : Int} (h : OwnI w b (.slice (some ⟨g, 0, none⟩) n cap) xs) (hx : xs[j]? = some x) : w.cell? ⟨g, j, none⟩ = some (.int .i64 x) := by
  have h0 : w.ownsRow b 3 1 (.slice (some ⟨g, 0, none⟩) n cap) xs.length (xs.map (Value.int .i64)) := h
  have := h0.cells (g := g) rfl j (.int .i64 x) (by rw [List.getElem?_map, hx]; rfl)
  have e : (⟨g, 0, none⟩ : Addr).add j = ⟨g, j, none⟩ := by unfold Addr.add; split <;> simp_all
  rwa [e] at this
theorem OwnI.stored {w : World} {b g n cap j : Nat} {xs : List Int} {y : Int} (h : OwnI w b (.slice (some ⟨g, 0, none⟩) n cap) xs) : OwnI (w.setCell ⟨g, j, none⟩ (.int .i64 y)) b (.slice (some ⟨g, 0, none⟩) n cap) (xs.set j y) := by
  have hn : n = xs.length := h.slen
  subst hn
  have h1 := (World.ownsRow.stored h j (.int .i64 y)).1
  unfold OwnI
  rw [List.length_set, List.map_set]
  exact h1

theorem swap_world {w1 W6 : World} {bs g5 R n cap a b : Nat} {xs : List Int} {u y : Int} {cs : Array Value} (ho : OwnI W6 bs (.slice (some ⟨g5, 0, none⟩) n cap) xs) (hb : Blk W6 R 72 cs) (hx : Ext w1 W6) (hgR : ¬ g5 = R) (hg : w1.heap.size ≤ g5) (hu : xs[a]? = some u) (hy : xs[b]? = some y) :
    OwnI ((W6.setCell ⟨g5, a, none⟩ (.int .i64 y)).setCell ⟨g5, b, none⟩ (.int .i64 u)).drew bs (.slice (some ⟨g5, 0, none⟩) n cap) (swapL xs a b) ∧ Blk ((W6.setCell ⟨g5, a, none⟩ (.int .i64 y)).setCell ⟨g5, b, none⟩ (.int .i64 u)).drew R 72 cs ∧
      Ext w1 ((W6.setCell ⟨g5, a, none⟩ (.int .i64 y)).setCell ⟨g5, b, none⟩ (.int .i64 u)).drew := by
  refine ⟨?_, ?_, ((hx.setCell (p := ⟨g5, a, none⟩) hg _).setCell (p := ⟨g5, b, none⟩) hg _).drew⟩
  · rw [swap_set _ _ _ _ _ hu hy]
    exact ((ho.stored (j := a) (y := y)).stored (j := b) (y := u)).ext (Ext.refl _).drew
  · have hne : ∀ j : Nat, R ≠ (⟨g5, j, none⟩ : Addr).block := fun j e => hgR e.symm
    exact (hb.far (hne a) _).far (hne b) _

set_option maxRecDepth 100000 in
set_option maxHeartbeats 8000000 in
theorem rSwapGood_c (F : Nat → Prop) (w : World) (v : Value) (S : ASt) (x i1 i2 : Int) (h : RefR F w 0 v S.rows) (hF : ∀ b, F b → b < w.heap.size) (hsm : S.rows.length ≤ 1000000) (hI : AInv S) (hE : swapE S x i1 i2 = 0) :
    Calls Try.prog 59 #[.agg #[v, .int .i64 S.size], .int .i64 x, .int .i64 i1, .int .i64 i2] w (RetR F (swapS S x i1 i2) [.int .i64 (swapE S x i1 i2)] w) := by
  obtain ⟨A0, c0, rfl, hc⟩ := RefR.len h
  have HX := Lib.hid (((Ext.refl w).alloc (Obj.cells #[.slice A0 S.rows.length c0, .int .i64 S.size] 58)).alloc (Obj.cells #[.slice none 0 0, .int .i64 0] 58))
  have HB0 := Lib.hid ((Blk.new w 58 #[.slice A0 S.rows.length c0, .int .i64 S.size]).alloc (Obj.cells #[.slice none 0 0, .int .i64 0] 58))
  have HB1 := Lib.hid (Blk.new2K w (Obj.cells #[.slice A0 S.rows.length c0, .int .i64 S.size] 58) 58 #[.slice none 0 0, .int .i64 0])
  cases hr : S.rows.find? (atP x) with
  | none => have : swapE S x i1 i2 = 20 := by unfold swapE; rw [hr]
            rw [this] at hE; cases hE
  | some r =>
    obtain ⟨i, hi, hr2, hp, hlv⟩ := find_at hr
    have hsw : swapE S x i1 i2 = if i1 < 0 ∨ i2 < 0 ∨ (r.lits.length : Int) ≤ i1 ∨ (r.lits.length : Int) ≤ i2 then 2 else 0 := by unfold swapE; rw [hr]
    have hgood : ¬ (i1 < 0 ∨ i2 < 0 ∨ (r.lits.length : Int) ≤ i1 ∨ (r.lits.length : Int) ≤ i2) := fun hb => by rw [hsw, if_pos hb] at hE; cases hE
    obtain ⟨a, rfl⟩ := Int.eq_ofNat_of_zero_le (show 0 ≤ i1 by omega)
    obtain ⟨b, rfl⟩ := Int.eq_ofNat_of_zero_le (show 0 ≤ i2 by omega)
    have ha : a < r.lits.length := by omega
    have hb : b < r.lits.length := by omega
    have hS : swapS S x a b = ⟨S.rows.set i { r with lits := swapL r.lits a b }, S.size⟩ := by
      unfold swapS stepAt
      rw [hE, if_pos rfl, hi]
      simp only [hr2, Int.toNat_natCast]
    rw [hS, hE]
    obtain ⟨u, hu⟩ : ∃ u, r.lits[a]? = some u := ⟨r.lits[a], List.getElem?_eq_getElem ha⟩
    obtain ⟨y, hy⟩ : ∃ y, r.lits[b]? = some y := ⟨r.lits[b], List.getElem?_eq_getElem hb⟩
    have hil := (List.getElem?_eq_some_iff.1 hr2).1
    obtain ⟨_, hlen, hlb⟩ := hI.ok r (List.mem_of_getElem? hr2)
    have HLB : Hid (∀ z ∈ r.lits, -9223372036854775808 ≤ z ∧ z ≤ 9223372036854775807) := Lib.hid fun z hz => by have := hlb z hz; omega
    have HF := Lib.hid (findA_some hi)
    have HR2 := Lib.hid hr2
    have HU := Lib.hid hu
    have HY := Lib.hid hy
    clear hE hr hi hp hlv hr2 hsw hgood hS hI hlb hu hy
    have a0 : ¬ (a : Int) < 0 := by omega
    have b0 : ¬ (b : Int) < 0 := by omega
    have a1 : ¬ (r.lits.length : Int) ≤ (a : Int) := by omega
    have b1 : ¬ (r.lits.length : Int) ≤ (b : Int) := by omega
    go_enter Try.func59, Try.ntmps59
    go_wp2_with fail
    refine (rFind_c F _ 0 _ S.rows S.size x (h.ext HX.out) hsm).mono ?_
    rintro e w1 ⟨rfl, hx1⟩
    rw [HF.out]
    have hb0 := HB0.out.ext hx1
    have k0 := hb0.cell 0
    have k1 := hb0.cell 1
    have hX1 := HX.out.trans hx1
    obtain ⟨g, cap, A1, n1, c1, e, hq, z0, z1, z2, z3, z4, _⟩ := (h.ext hX1).at_ HR2.out
    have hn1 : n1 = r.lits.length := by simpa [slen] using hq.1.slen
    subst hn1
    injection e with e1 e2 e3
    subst e1 e3
    have hsl := ownI_sl hq.1 (by omega) HLB.out
    have HX1 := Lib.hid hX1
    have HXB := Lib.hid hx1
    have HQ := Lib.hid hq
    have HSL := Lib.hid hsl
    have HBZ := Lib.hid hb0
    have q0 := fun o => keep_allocK (o := o) k0
    have q1 := fun o => keep_allocK (o := o) k1
    have i0 : (0 : Int) ≤ (i : Int) := by omega
    have i1' : (i : Int) < (S.rows.length : Int) := by omega
    have hh1 : w.heap.size + 2 ≤ w1.heap.size := by have := hx1.size_le; simpa using this
    clear hb0 hx1 hX1 hq hsl
    go_wp2_with (at_builtin; refine appendS _ rfl (.tmp 44) (.tmp 46) rfl (w1.heap.size + 1) _ _ rfl (own_blk0I (by simp) (Blk.newgK _ _ (by simp))) _ _ _ r.lits rfl (HSL.out.ext (((Ext.refl _).alloc _).alloc _)) (by simp; omega) (by simp) ?_; intro v5 w5 ho5 hg5 _; rw [List.nil_append] at ho5; obtain ⟨g5, cap5, cur5, rfl, hcur5, hgb5, _, _⟩ := ho5.toV.fullBlk (by omega); have hx5 : Ext w1 w5 := Ext.grown (((Ext.refl w1).alloc _).alloc _) hg5 (fun j hj => by have : w1.heap.size + 1 = j := Option.some.inj hj; omega); have hbr := ((Blk.new w1 72 #[.int .i64 r.pos, .int .i64 r.id, .slice A1 r.lits.length c1, .bool r.learnt, .bool r.live]).alloc (Obj.cells #[] 3)).grown hg5 (fun e => by have : w1.heap.size = w1.heap.size + 1 := Option.some.inj e; omega); have HO5 := Lib.hid ho5; have HBR := Lib.hid hbr; have HX5 := Lib.hid hx5; have HCUR5 := Lib.hid hcur5; have r2 := hbr.cell 2; have f2 := hbr.frozen 2; clear ho5 hg5 hx5 hbr hcur5)
    have hgR : ¬ g5 = w1.heap.size := by omega
    have hRg : ¬ w1.heap.size = g5 := by omega
    have ho6 := HO5.out.setCell (p := ⟨w1.heap.size, 2, none⟩) (fun k e hk => by have : g5 = k := Option.some.inj e; have hk' : k = w1.heap.size := hk; omega) (.slice (some ⟨g5, 0, none⟩) r.lits.length cap5)
    have hb6 := HBR.out.set_ 2 (.slice (some ⟨g5, 0, none⟩) r.lits.length cap5)
    have hx6 : Ext w1 (w5.setCell ⟨w1.heap.size, 2, none⟩ (.slice (some ⟨g5, 0, none⟩) r.lits.length cap5)) := HX5.out.setCell (Nat.le_refl _) _
    have hc6 := HCUR5.out.far (p := ⟨w1.heap.size, 2, none⟩) hgR (.slice (some ⟨g5, 0, none⟩) r.lits.length cap5)
    clear r2 f2
    generalize w5.setCell ⟨w1.heap.size, 2, none⟩ (.slice (some ⟨g5, 0, none⟩) r.lits.length cap5) = W6 at ho6 hb6 hx6 hc6 ⊢
    have e1 : W6.cell? ⟨g5, a, none⟩ = some (.int .i64 u) := ho6.cellI HU.out
    have e2 : W6.cell? ⟨g5, b, none⟩ = some (.int .i64 y) := ho6.cellI HY.out
    have f1 : W6.frozen? ⟨g5, a, none⟩ = false := hc6.frozen a
    have f2 : W6.frozen? ⟨g5, b, none⟩ = false := hc6.frozen b
    have r2 := hb6.cell 2
    simp at r2
    have HO6 := Lib.hid ho6
    have HB6 := Lib.hid hb6
    have HX6 := Lib.hid hx6
    clear ho6 hb6 hx6 hc6
    have key := swap_world (u := u) (y := y) (a := a) (b := b) HO6.out HB6.out HX6.out hgR (by omega) HU.out HY.out
    by_cases hab : a = b
    · subst hab
      have huv : u = y := Option.some.inj (HU.out.symm.trans HY.out)
      subst huv
      have KEY := Lib.hid key
      clear key
      go_region
      all_goals
        obtain ⟨ho8, hb8, hx8⟩ := KEY.out
        generalize ((W6.setCell ⟨g5, a, none⟩ (.int .i64 u)).setCell ⟨g5, a, none⟩ (.int .i64 u)).drew = W8 at ho8 hb8 hx8 ⊢
        have hz8 := HBZ.out.ext hx8
        have y0 := hz8.cell 0
        have y1 := hz8.cell 1
        have s0 := hb8.cell 0
        have s1 := hb8.cell 1
        have s2 := hb8.cell 2
        have s3 := hb8.cell 3
        have s4 := hb8.cell 4
        simp at s0 s1 s2 s3 s4
        have HO8 := Lib.hid ho8
        have HX8 := Lib.hid hx8
        clear hz8 hb8 ho8 hx8 k0 k1 q0 q1 z0 z1 z2 z3 z4 e1 e2 f1 f2 r2
        go_wp2_with fail
        refine (rWith_c F _ _ S.rows S.size i { r with lits := swapL r.lits a a } (some ⟨g5, 0, none⟩) r.lits.length cap5 (h.ext (HX1.out.trans HX8.out)) (fun k hk => Nat.lt_of_lt_of_le (hF k hk) (HX1.out.trans HX8.out).size_le) hsm hil ⟨HO8.out.less (Nat.zero_le _), fun k hk hf => by have : g5 = k := Option.some.inj hk; have := hF k hf; omega⟩).mono ?_
        rintro e w9 ⟨A9, n9, c9, rfl, hr9, hx9⟩
        have hd1 := HB1.out.ext (HXB.out.trans (HX8.out.trans hx9))
        have g0' := hd1.cell 0
        have g1' := hd1.cell 1
        have p0 := hd1.frozen 0
        have p1 := hd1.frozen 1
        have HD := Lib.hid hd1
        have HRR := Lib.hid hr9
        have HX9 := Lib.hid ((HX1.out.trans HX8.out).trans hx9)
        clear hd1 hr9 hx9
        go_wp2
        refine bodyPost_ret (v := .tuple #[.agg #[.slice A9 n9 c9, .int .i64 S.size], .int .i64 0]) (by simp [results, Try.results59, go_sem, *]) rfl ?_
        refine ⟨_, rfl, RefR.setCell (RefR.setCell HRR.out HD.out (by decide) (by decide) 0 _) (HD.out.set_ 0 _) (by decide) (by decide) 1 _, ?_⟩
        repeat refine Ext.setCell ?_ (by simp) _
        exact HX9.out
    · have hba : ¬ b = a := fun e => hab e.symm
      have g1 : (⟨g5, a, none⟩ : Addr) ≠ ⟨g5, b, none⟩ := by intro e; injection e with _ e; omega
      have g2 : (⟨g5, b, none⟩ : Addr) ≠ ⟨g5, a, none⟩ := Ne.symm g1
      have KEY := Lib.hid key
      clear key
      go_region
      all_goals
        obtain ⟨ho8, hb8, hx8⟩ := KEY.out
        generalize ((W6.setCell ⟨g5, a, none⟩ (.int .i64 y)).setCell ⟨g5, b, none⟩ (.int .i64 u)).drew = W8 at ho8 hb8 hx8 ⊢
        have hz8 := HBZ.out.ext hx8
        have y0 := hz8.cell 0
        have y1 := hz8.cell 1
        have s0 := hb8.cell 0
        have s1 := hb8.cell 1
        have s2 := hb8.cell 2
        have s3 := hb8.cell 3
        have s4 := hb8.cell 4
        simp at s0 s1 s2 s3 s4
        have HO8 := Lib.hid ho8
        have HX8 := Lib.hid hx8
        clear hz8 hb8 ho8 hx8 k0 k1 q0 q1 z0 z1 z2 z3 z4 e1 e2 f1 f2 r2
        go_wp2_with fail
        refine (rWith_c F _ _ S.rows S.size i { r with lits := swapL r.lits a b } (some ⟨g5, 0, none⟩) r.lits.length cap5 (h.ext (HX1.out.trans HX8.out)) (fun k hk => Nat.lt_of_lt_of_le (hF k hk) (HX1.out.trans HX8.out).size_le) hsm hil ⟨HO8.out.less (Nat.zero_le _), fun k hk hf => by have : g5 = k := Option.some.inj hk; have := hF k hf; omega⟩).mono ?_
        rintro e w9 ⟨A9, n9, c9, rfl, hr9, hx9⟩
        have hd1 := HB1.out.ext (HXB.out.trans (HX8.out.trans hx9))
        have g0' := hd1.cell 0
        have g1' := hd1.cell 1
        have p0 := hd1.frozen 0
        have p1 := hd1.frozen 1
        have HD := Lib.hid hd1
        have HRR := Lib.hid hr9
        have HX9 := Lib.hid ((HX1.out.trans HX8.out).trans hx9)
        clear hd1 hr9 hx9
        go_wp2
        refine bodyPost_ret (v := .tuple #[.agg #[.slice A9 n9 c9, .int .i64 S.size], .int .i64 0]) (by simp [results, Try.results59, go_sem, *]) rfl ?_
        refine ⟨_, rfl, RefR.setCell (RefR.setCell HRR.out HD.out (by decide) (by decide) 0 _) (HD.out.set_ 0 _) (by decide) (by decide) 1 _, ?_⟩
        repeat refine Ext.setCell ?_ (by simp) _
        exact HX9.out
end Go.Proofs.Ytbkimfefbdfkbaa
