/- BruteSplits answers true. -/
import Derived.Test.YtdiapihfjmbgoaaBrS
import Derived.Deep.RegionLaw
set_option maxRecDepth 100000
namespace Go.Proofs.Ytdiapihfjmbgoaa
open Go.RowKit

/-- What With hands back, where the one clause more is a literal. -/
def RetW1 (v l : Int) (L : List (List Int)) (w : World) (e : Ending) (w' : World) : Prop :=
  ∃ A c, e = .returned (.agg #[.int .i64 v, .slice A (L.length + 1) c]) ∧ RowsSl w' A (L.length + 1) (L ++ [[l]]) ∧ Ext w w' ∧ WRows w' w.heap.size (.slice A (L.length + 1) c) (L ++ [[l]])
theorem with1_c (v : Int) (A : Option Addr) (n c : Nat) (L : List (List Int)) (l : Int) (g : Nat) (w : World) (h : RowsSl w A n L) (h1 : Blk w g 40 #[.slice (some ⟨w.heap.size - 2, 0, none⟩) 1 1]) (h2 : IntSl w (some ⟨w.heap.size - 2, 0, none⟩) 1 [l]) (hl : checkV l v = 0)
    (hsm : L.length ≤ 1000) (hlb : ∀ xs ∈ L, xs.length ≤ 1000) :
    Calls Try.prog 22 #[.agg #[.int .i64 v, .slice A n c], .slice (some ⟨g, 0, none⟩) 1 1] w (RetW1 v l L w) := by
  obtain ⟨hv0, hv1, _⟩ := checkV_var hl
  refine (withW_c v A n c L _ _ _ [[l]] w h (rows_one h1 h2) (by omega) (by omega) (by have := h.1; omega) (by decide) ?_).mono ?_
  · intro xs hxs
    rcases List.mem_append.1 hxs with hm | hm
    · have := hlb xs hm; omega
    · simp at hm; subst hm; simp
  · rintro e w' ⟨A', n', c', rfl, hs, _, hx, hw⟩
    have hn : n' = L.length + 1 := by rw [← hs.1]; simp
    subst hn
    exact ⟨A', c', by rw [with_one hl], hs, hx, hw⟩
/-- The rows of a formula that grows: those that were handed in, or those that With built. -/
def GRow (A : Option Addr) (n c : Nat) (L : List (List Int)) (wr : World) (v : Value) (L' : List (List Int)) : Prop :=
  (v = .slice A n c ∧ L' = L) ∨ ∃ base, WRows wr base v L'
theorem GRow.sl {w wr : World} {A : Option Addr} {n c : Nat} {L : List (List Int)} {v : Value} {cs : List Int} (h : GRow A n c L wr v (L ++ oppC cs)) (hx : Ext w wr) (hR : RowsSl w A n L) (hcs : ∀ y ∈ cs, -100000 ≤ y ∧ y ≤ 100000) (hlen : (L ++ oppC cs).length ≤ 1000) :
    ∃ Ak nk ck, v = .slice Ak nk ck ∧ RowsSl wr Ak nk (L ++ oppC cs) := by
  rcases h with ⟨rfl, e⟩ | ⟨base, hw⟩
  · exact ⟨_, _, _, rfl, by rw [e]; exact hR.ext hx⟩
  · have hb : ∀ xs ∈ L ++ oppC cs, xs.length ≤ 9223372036854775807 ∧ ∀ x ∈ xs, -9223372036854775808 ≤ x ∧ x ≤ 9223372036854775807 := by
      intro xs hxs
      rcases List.mem_append.1 hxs with hm | hm
      · obtain ⟨j, hj⟩ := List.mem_iff_getElem?.1 hm
        obtain ⟨_, xs', _, _, _, _, hj', _, hrow⟩ := hR.at_ (k := j) (by have := (List.getElem?_eq_some_iff.1 hj).1; have := hR.1; omega)
        obtain rfl : xs = xs' := Option.some.inj (hj.symm.trans hj'.out)
        exact ⟨by rw [hrow.1]; exact hrow.2.1, hrow.2.2.1⟩
      · unfold oppC at hm
        obtain ⟨y, hy, rfl⟩ := List.mem_map.1 hm
        have := hcs y hy
        exact ⟨by simp, fun z hz => by simp at hz; omega⟩
    obtain ⟨Ak, nk, ck, e, hs, _⟩ := hw.sl hb (by omega)
    exact ⟨_, _, _, e, hs⟩
theorem gset2 {w W : World} {G base : Nat} {a b a' v : Value} {L' : List (List Int)} (hb : Blk W G 24 #[a, b]) (hw : WRows W base v L') (hx : Ext w W) (hG : w.heap.size ≤ G) :
    WRows ((W.setCell ⟨G, 0, none⟩ a').setCell ⟨G, 1, none⟩ v) base v L' ∧ Blk ((W.setCell ⟨G, 0, none⟩ a').setCell ⟨G, 1, none⟩ v) G 24 #[a', v] ∧ Ext w ((W.setCell ⟨G, 0, none⟩ a').setCell ⟨G, 1, none⟩ v) := by
  have g0 : W.grownBy (W.setCell ⟨G, 0, none⟩ a') (some G) := ⟨rfl, rfl, rfl, by rw [World.size_setCell]; exact Nat.le_refl _, fun k _ hk => Below.heap_setCell W _ _ k (fun e => hk (by rw [e]))⟩
  have g1 : (W.setCell ⟨G, 0, none⟩ a').grownBy ((W.setCell ⟨G, 0, none⟩ a').setCell ⟨G, 1, none⟩ v) (some G) := ⟨rfl, rfl, rfl, by rw [World.size_setCell (W.setCell ⟨G, 0, none⟩ a')]; exact Nat.le_refl _, fun k _ hk => Below.heap_setCell _ _ _ k (fun e => hk (by rw [e]))⟩
  have hb0 := hb.set_ 0 a'
  exact ⟨(hw.blk_set hb (by decide) (by decide) g0).blk_set hb0 (by decide) (by decide) g1, hb0.set_ 1 v, (hx.setCell hG _).setCell hG _⟩
theorem few_len {L : List (List Int)} (h : fewV L = true) : ∀ xs ∈ L, xs.length ≤ 50 := by
  unfold fewV at h
  simp only [Bool.and_eq_true, decide_eq_true_eq, List.all_eq_true] at h
  exact h.2

set_option maxRecDepth 100000 in
set_option maxHeartbeats 8000000 in
theorem lawBruteSplits_c (x : Int) (A : Option Addr) (n c : Nat) (L : List (List Int)) (l : Int) (A2 : Option Addr) (n2 c2 : Nat) (cl : List Int) (w : World) (hf : (-9223372036854775808 ≤ x ∧ x ≤ 9223372036854775807) ∧ RowsSl w A n L ∧ n ≤ c) (_hl1 : -9223372036854775808 ≤ l) (_hl2 : l ≤ 9223372036854775807) (h2 : IntSl w A2 n2 cl) :
    Calls Try.prog 6 #[.agg #[.int .i64 x, .slice A n c], .int .i64 l, .slice A2 n2 c2] w fun e w' => e = .returned (.bool true) ∧ Ext w w' := by
  have HF := Lib.hid hf.2.1
  have HC := Lib.hid h2
  clear hf h2
  have HB := Lib.hid (Blk.new w 24 #[.int .i64 x, .slice A n c])
  have HX0 : Hid (Ext w _) := (Ext.refl w).alloc (Obj.cells #[.int .i64 x, .slice A n c] 24)
  have hn2s := HC.out.2.1
  cases hfew : few22V x L with
  | false =>
    have HW := Lib.hid hfew
    clear hfew
    go_enter Try.func6, Try.ntmps6
    go_wp2_with fail
    refine (few22_c x _ _ _ L _ (HF.out.ext HX0.out)).mono ?_
    rintro e w1 ⟨rfl, hx⟩
    rw [HW.out]
    have HX1 := Lib.hid (HX0.out.trans hx)
    have HB := Lib.hid (HB.out.ext hx)
    clear hx
    have b0 : w1.cell? ⟨w.heap.size, 0, none⟩ = some (.int .i64 x) := HB.out.cell 0
    have b1 : w1.cell? ⟨w.heap.size, 1, none⟩ = some (.slice A n c) := HB.out.cell 1
    go_wp2_with fail
    refine (law22awake_c _).mono ?_
    rintro e w2 ⟨rfl, hx⟩
    have HX2 := Lib.hid (HX1.out.trans hx)
    have HB := Lib.hid (HB.out.ext hx)
    clear hx
    clear b0 b1
    have b0 : w2.cell? ⟨w.heap.size, 0, none⟩ = some (.int .i64 x) := HB.out.cell 0
    have b1 : w2.cell? ⟨w.heap.size, 1, none⟩ = some (.slice A n c) := HB.out.cell 1
    go_wp2_with fail
    go_ret
    exact ⟨rfl, HX2.out⟩
  | true =>
    have HW := Lib.hid hfew
    have HN := Lib.hid (few22_bd hfew)
    have HL50 := Lib.hid (few_len (few22_bd hfew).2.1)
    have hml : (setsV x L).length ≤ 128 := few_models hfew
    have hnsm : n ≤ 60 := by have := HF.out.1; have := HN.out.1; omega
    clear hfew
    by_cases hck : checkV l x ≠ 0
    · have hne : (checkV l x != 0) = true := by simpa using hck
      clear hck
      go_enter Try.func6, Try.ntmps6
      go_wp2_with fail
      refine (few22_c x _ _ _ L _ (HF.out.ext HX0.out)).mono ?_
      rintro e w1 ⟨rfl, hx⟩
      rw [HW.out]
      have HX1 := Lib.hid (HX0.out.trans hx)
      have HB := Lib.hid (HB.out.ext hx)
      clear hx
      have b0 : w1.cell? ⟨w.heap.size, 0, none⟩ = some (.int .i64 x) := HB.out.cell 0
      have b1 : w1.cell? ⟨w.heap.size, 1, none⟩ = some (.slice A n c) := HB.out.cell 1
      go_wp2_with fail
      refine (rCheck_c l x _).mono ?_
      rintro e w' ⟨rfl, rfl⟩
      generalize checkV l x = y at hne
      go_wp2_with fail
      refine (law22awake_c _).mono ?_
      rintro e w2 ⟨rfl, hx⟩
      have HX2 := Lib.hid (HX1.out.trans hx)
      have HB := Lib.hid (HB.out.ext hx)
      clear hx
      clear b0 b1
      have b0 : w2.cell? ⟨w.heap.size, 0, none⟩ = some (.int .i64 x) := HB.out.cell 0
      have b1 : w2.cell? ⟨w.heap.size, 1, none⟩ = some (.slice A n c) := HB.out.cell 1
      go_wp2_with fail
      go_ret
      exact ⟨rfl, HX2.out⟩
    · have hck0 : checkV l x = 0 := by omega
      have HCK := Lib.hid hck0
      obtain ⟨hx0, hx1, hl0, _, _, hl3, hl4⟩ := checkV_var hck0
      have hwl : IntKind.i64.wrap (-l) = -l := IntWalk.i64_in _ (by omega)
      clear hck hck0
      by_cases h30 : 30 < n2
      · go_enter Try.func6, Try.ntmps6
        go_wp2_with fail
        refine (few22_c x _ _ _ L _ (HF.out.ext HX0.out)).mono ?_
        rintro e w1 ⟨rfl, hx⟩
        rw [HW.out]
        have HX1 := Lib.hid (HX0.out.trans hx)
        have HB := Lib.hid (HB.out.ext hx)
        clear hx
        have b0 : w1.cell? ⟨w.heap.size, 0, none⟩ = some (.int .i64 x) := HB.out.cell 0
        have b1 : w1.cell? ⟨w.heap.size, 1, none⟩ = some (.slice A n c) := HB.out.cell 1
        go_wp2_with fail
        refine (rCheck_c l x _).mono ?_
        rintro e w' ⟨rfl, rfl⟩
        rw [HCK.out]
        go_wp2_with fail
        refine (law22awake_c _).mono ?_
        rintro e w2 ⟨rfl, hx⟩
        have HX2 := Lib.hid (HX1.out.trans hx)
        have HB := Lib.hid (HB.out.ext hx)
        clear hx
        clear b0 b1
        have b0 : w2.cell? ⟨w.heap.size, 0, none⟩ = some (.int .i64 x) := HB.out.cell 0
        have b1 : w2.cell? ⟨w.heap.size, 1, none⟩ = some (.slice A n c) := HB.out.cell 1
        go_wp2_with fail
        go_ret
        exact ⟨rfl, HX2.out⟩
      · by_cases hbc : bCheckV x L = 0
        · have HBC := Lib.hid hbc
          have HSP := Lib.hid (splits hbc HCK.out (show L.length < 1000000 by have := HF.out.1; omega))
          clear hbc
          by_cases hcc : cCheckV cl x = 0
          · have HFO := Lib.hid (follows_opp HBC.out hcc (show L.length + cl.length < 1000000 by have := HF.out.1; have := HC.out.1; omega))
            have HCC := Lib.hid hcc
            clear hcc
            go_enter Try.func6, Try.ntmps6
            go_wp2_with fail
            refine (few22_c x _ _ _ L _ (HF.out.ext HX0.out)).mono ?_
            rintro e w1 ⟨rfl, hx⟩
            rw [HW.out]
            have HX1 := Lib.hid (HX0.out.trans hx)
            have HB := Lib.hid (HB.out.ext hx)
            clear hx
            have b0 : w1.cell? ⟨w.heap.size, 0, none⟩ = some (.int .i64 x) := HB.out.cell 0
            have b1 : w1.cell? ⟨w.heap.size, 1, none⟩ = some (.slice A n c) := HB.out.cell 1
            go_wp2_with fail
            refine (rCheck_c l x _).mono ?_
            rintro e w' ⟨rfl, rfl⟩
            rw [HCK.out]
            go_wp2_with fail
            refine (count_c x _ _ _ L _ (HF.out.ext HX1.out) (by omega)).mono ?_
            rintro e w2 ⟨rfl, hx⟩
            rw [HBC.out]
            have HX2 := Lib.hid (HX1.out.trans hx)
            have HB := Lib.hid (HB.out.ext hx)
            clear hx
            clear b0 b1
            have b0 : w2.cell? ⟨w.heap.size, 0, none⟩ = some (.int .i64 x) := HB.out.cell 0
            have b1 : w2.cell? ⟨w.heap.size, 1, none⟩ = some (.slice A n c) := HB.out.cell 1
            have hb1 := (Blk.new (w2.alloc (Obj.cells #[.int .i64 (l)] 3)) 40 #[.slice (some ⟨w2.heap.size, 0, none⟩) 1 1])
            rw [World.size_alloc] at hb1
            have hs1 := (intSl_new w2 #[.int .i64 (l)] 3 [l] 1 rfl rfl (by decide) (by intro y hy; simp at hy; subst hy; omega)).ext ((Ext.refl _).alloc (Obj.cells #[.slice (some ⟨w2.heap.size, 0, none⟩) 1 1] 40))
            have HB1 := Lib.hid hb1
            have HS1 := Lib.hid hs1
            clear hb1 hs1
            go_wp2_with fail
            refine (with1_c x _ _ _ L (l) _ _ ((HF.out.ext HX2.out).ext (((Ext.refl _).alloc _).alloc _)) (by simpa using HB1.out) (by simpa using HS1.out) HCK.out (by have := HF.out.1; omega) (fun xs hxs => by have := HL50.out xs hxs; omega)).mono ?_
            rintro e w3 ⟨A5, c5, rfl, hs5, hx, _⟩
            have HS5 := Lib.hid hs5
            clear hs5 HB1 HS1
            have HX3 := Lib.hid (HX2.out.trans ((((Ext.refl _).alloc _).alloc _).trans hx))
            have HB := Lib.hid (HB.out.ext ((((Ext.refl _).alloc _).alloc _).trans hx))
            clear hx
            clear b0 b1
            have b0 : w3.cell? ⟨w.heap.size, 0, none⟩ = some (.int .i64 x) := HB.out.cell 0
            have b1 : w3.cell? ⟨w.heap.size, 1, none⟩ = some (.slice A n c) := HB.out.cell 1
            go_wp2_with fail
            refine (count_c x _ _ _ (L ++ [[l]]) _ HS5.out (by have := HF.out.1; omega)).mono ?_
            rintro e w4 ⟨rfl, hx⟩
            clear HS5
            have HX4 := Lib.hid (HX3.out.trans hx)
            have HB := Lib.hid (HB.out.ext hx)
            clear hx
            clear b0 b1
            have b0 : w4.cell? ⟨w.heap.size, 0, none⟩ = some (.int .i64 x) := HB.out.cell 0
            have b1 : w4.cell? ⟨w.heap.size, 1, none⟩ = some (.slice A n c) := HB.out.cell 1
            generalize bCheckV x (L ++ [[l]]) = bc1
            have hb1 := (Blk.new (w4.alloc (Obj.cells #[.int .i64 (-l)] 3)) 40 #[.slice (some ⟨w4.heap.size, 0, none⟩) 1 1])
            rw [World.size_alloc] at hb1
            have hs1 := (intSl_new w4 #[.int .i64 (-l)] 3 [-l] 1 rfl rfl (by decide) (by intro y hy; simp at hy; subst hy; omega)).ext ((Ext.refl _).alloc (Obj.cells #[.slice (some ⟨w4.heap.size, 0, none⟩) 1 1] 40))
            have HB1 := Lib.hid hb1
            have HS1 := Lib.hid hs1
            clear hb1 hs1
            go_wp2_with fail
            refine (with1_c x _ _ _ L (-l) _ _ ((HF.out.ext HX4.out).ext (((Ext.refl _).alloc _).alloc _)) (by simpa using HB1.out) (by simpa using HS1.out) (checkV_neg HCK.out) (by have := HF.out.1; omega) (fun xs hxs => by have := HL50.out xs hxs; omega)).mono ?_
            rintro e w5 ⟨A5, c5, rfl, hs5, hx, _⟩
            have HS5 := Lib.hid hs5
            clear hs5 HB1 HS1
            have HX5 := Lib.hid (HX4.out.trans ((((Ext.refl _).alloc _).alloc _).trans hx))
            have HB := Lib.hid (HB.out.ext ((((Ext.refl _).alloc _).alloc _).trans hx))
            clear hx
            clear b0 b1
            have b0 : w5.cell? ⟨w.heap.size, 0, none⟩ = some (.int .i64 x) := HB.out.cell 0
            have b1 : w5.cell? ⟨w.heap.size, 1, none⟩ = some (.slice A n c) := HB.out.cell 1
            go_wp2_with fail
            refine (count_c x _ _ _ (L ++ [[-l]]) _ HS5.out (by have := HF.out.1; omega)).mono ?_
            rintro e w6 ⟨rfl, hx⟩
            clear HS5
            have HX6 := Lib.hid (HX5.out.trans hx)
            have HB := Lib.hid (HB.out.ext hx)
            clear hx
            clear b0 b1
            have b0 : w6.cell? ⟨w.heap.size, 0, none⟩ = some (.int .i64 x) := HB.out.cell 0
            have b1 : w6.cell? ⟨w.heap.size, 1, none⟩ = some (.slice A n c) := HB.out.cell 1
            generalize bCheckV x (L ++ [[-l]]) = bc2
            have hws : IntKind.i64.wrap (((setsV x (L ++ [[l]])).length : Int) + ((setsV x (L ++ [[-l]])).length : Int)) = ((setsV x L).length : Int) := by rw [IntWalk.i64_in _ (by have := HSP.out; omega)]; have := HSP.out; omega
            go_wp2_with fail
            refine (bfollows_c x _ _ _ L _ _ _ cl _ (HF.out.ext HX6.out) (by omega) (HC.out.ext HX6.out)).mono ?_
            rintro e w7 ⟨rfl, hx⟩
            rw [HFO.out]
            dsimp only
            have HX7 := Lib.hid (HX6.out.trans hx)
            have HB := Lib.hid (HB.out.ext hx)
            clear hx
            clear b0 b1
            have b0 : w7.cell? ⟨w.heap.size, 0, none⟩ = some (.int .i64 x) := HB.out.cell 0
            have b1 : w7.cell? ⟨w.heap.size, 1, none⟩ = some (.slice A n c) := HB.out.cell 1
            obtain ⟨bb, hbb⟩ : ∃ bb, decide ((setsV x (L ++ oppC cl)).length = 0) = bb := ⟨_, rfl⟩
            have HBB := Lib.hid hbb
            rw [hbb]
            clear hbb
            go_wp2_with fail
            have hw7 : w.heap.size ≤ w7.heap.size := HX7.out.size_le
            have hn30 : n2 ≤ 30 := by omega
            clear b0 b1
            go_loopw [16] (fun i wr => ∃ (k : Nat) (vk : Value), k ≤ n2 ∧ i = .int .i64 k ∧ Blk wr w7.heap.size 24 #[.int .i64 x, vk] ∧ GRow A n c L wr vk (L ++ oppC (cl.take k)) ∧ Ext w wr) (fun i _ => n2 - (intOf i).toNat)
            case atStart => exact ⟨0, _, Nat.zero_le _, rfl, Blk.new w7 _ _, .inl ⟨rfl, by simp [oppC]⟩, HX7.out.alloc _⟩
            case round =>
              obtain ⟨k, vk, hk, rfl, hblk, hrow, hxr⟩ := hrel
              have hlb : ∀ xs ∈ L ++ oppC (cl.take k), xs.length ≤ 1000 := by
                intro xs hxs
                rcases List.mem_append.1 hxs with hm | hm
                · have := HL50.out xs hm; omega
                · unfold oppC at hm
                  obtain ⟨y, _, rfl⟩ := List.mem_map.1 hm
                  simp
              have hlen : (L ++ oppC (cl.take k)).length ≤ 1000 := by
                have h1 := HF.out.1
                have h2 := List.length_take_le k cl
                rw [List.length_append, oppC, List.length_map]; omega
              have hcb : ∀ y ∈ cl, checkV y x = 0 := (cCheckV_ok HCC.out).2.2
              have HCB := Lib.hid hcb
              obtain ⟨Ak, nk, ck, rfl, hrs⟩ := hrow.sl hxr HF.out (fun y hy => by have := checkV_var (hcb y (List.mem_of_mem_take hy)); omega) hlen
              have HRS := Lib.hid hrs
              have HLB := Lib.hid hlb
              have HLEN := Lib.hid hlen
              have HXR := Lib.hid hxr
              have HBLK := Lib.hid hblk
              have HROW := Lib.hid hrow
              clear hrs hlb hlen hxr hblk hrow hcb
              by_cases hlt : k < n2
              · obtain ⟨ad, y, rfl, hy, hcy, hy1, hy2⟩ := (HC.out.ext HXR.out).at_ hlt
                have hcy0 := HCB.out y (List.mem_of_getElem? hy.out)
                obtain ⟨_, _, hyn, _, _, hy3, hy4⟩ := checkV_var hcy0
                have HCY := Lib.hid hcy0
                have hwy : IntKind.i64.wrap (-y) = -y := IntWalk.i64_in _ (by omega)
                have HT := Lib.hid (take_succ_of hy.out)
                have z0 : (0 : Int) ≤ (k : Int) := by omega
                have z1 : (k : Int) < (n2 : Int) := by omega
                have hbd := HBLK.out.ext (Ext.refl wr).drew
                have c0 : wr.drew.cell? ⟨w7.heap.size, 0, none⟩ = some (.int .i64 x) := hbd.cell 0
                have c1 : wr.drew.cell? ⟨w7.heap.size, 1, none⟩ = some (.slice Ak nk ck) := hbd.cell 1
                have cy : wr.drew.cell? (ad.add k) = some (.int .i64 y) := hcy
                have c0a : ∀ o, (wr.alloc o).drew.cell? ⟨w7.heap.size, 0, none⟩ = some (.int .i64 x) := fun o => ((Ext.refl wr).alloc o).drew.cell (HBLK.out.cell 0)
                have c1a : ∀ o, (wr.alloc o).drew.cell? ⟨w7.heap.size, 1, none⟩ = some (.slice Ak nk ck) := fun o => ((Ext.refl wr).alloc o).drew.cell (HBLK.out.cell 1)
                have c0b : ∀ o o', ((wr.alloc o).alloc o').drew.cell? ⟨w7.heap.size, 0, none⟩ = some (.int .i64 x) := fun o o' => (((Ext.refl wr).alloc o).alloc o').drew.cell (HBLK.out.cell 0)
                have c1b : ∀ o o', ((wr.alloc o).alloc o').drew.cell? ⟨w7.heap.size, 1, none⟩ = some (.slice Ak nk ck) := fun o o' => (((Ext.refl wr).alloc o).alloc o').drew.cell (HBLK.out.cell 1)
                have hb1 := (Blk.new (wr.alloc (Obj.cells #[.int .i64 (-y)] 3)) 40 #[.slice (some ⟨wr.heap.size, 0, none⟩) 1 1]).ext (Ext.refl _).drew
                rw [World.size_alloc] at hb1
                have hs1 := (intSl_new wr #[.int .i64 (-y)] 3 [-y] 1 rfl rfl (by decide) (by intro z hz; simp at hz; subst hz; omega)).ext ((Ext.refl _).alloc (Obj.cells #[.slice (some ⟨wr.heap.size, 0, none⟩) 1 1] 40)).drew
                have HB1 := Lib.hid hb1
                have HS1 := Lib.hid hs1
                have HXD : Hid (Ext wr ((wr.alloc (Obj.cells #[.int .i64 (-y)] 3)).alloc (Obj.cells #[.slice (some ⟨wr.heap.size, 0, none⟩) 1 1] 40)).drew) := (((Ext.refl wr).alloc _).alloc _).drew
                clear hb1 hs1 hbd
                go_wp2
                go_region_law
                  ((first
                    | (go_simp; (with_reducible refine (with1_c x _ _ _ (L ++ oppC (cl.take k)) (-y) _ _ (HRS.out.ext HXD.out) (by simpa using HB1.out) (by simpa using HS1.out) (checkV_neg HCY.out) HLEN.out HLB.out).mono ?_); rintro e w9 ⟨A9, c9, rfl, hs9, hx9, hw9⟩; have hb9 := HBLK.out.ext (HXD.out.trans hx9); have e0 := hb9.cell 0; have e1 := hb9.cell 1; have f0 := hb9.frozen 0; have f1 := hb9.frozen 1; have e1' : ∀ u, (w9.setCell ⟨w7.heap.size, 0, none⟩ u).cell? ⟨w7.heap.size, 1, none⟩ = some (.slice Ak nk ck) := (fun u => (hb9.set_ 0 u).cell 1); have f1' : ∀ u, (w9.setCell ⟨w7.heap.size, 0, none⟩ u).frozen? ⟨w7.heap.size, 1, none⟩ = false := (fun u => (hb9.set_ 0 u).frozen 1); have HB9 := Lib.hid hb9; have HW9 := Lib.hid hw9; have HX9 := Lib.hid (HXR.out.trans (HXD.out.trans hx9)); clear hb9 hw9 hs9 hx9)))
                all_goals
                  obtain ⟨y1, y2, y3⟩ := gset2 (a' := .int .i64 x) HB9.out HW9.out HX9.out hw7
                  rw [List.append_assoc, ← oppC_snoc, ← HT.out] at y1
                  simp only [List.length_append] at y1 y2 y3
                  have Y1 := Lib.hid y1
                  have Y2 := Lib.hid y2
                  have Y3 := Lib.hid y3
                  clear y1 y2 y3
                  go_wp2
                  go_roundw
                  case rel => exact ⟨k + 1, _, by omega, by go_num, Y2.out, .inr ⟨_, Y1.out⟩, Y3.out⟩
                  case measure => simp [intOf]; omega
              · have hcl : cl.take k = cl := take_len_of HC.out.1 hlt
                rw [hcl] at HRS HLEN
                have c0 := HBLK.out.cell 0
                have c1 := HBLK.out.cell 1
                clear hcl
                go_wp2_with fail
                refine (count_c x _ _ _ (L ++ oppC cl) _ HRS.out (by have := HRS.out.1; have := HLEN.out; omega)).mono ?_
                rintro e w9 ⟨rfl, hx9⟩
                have HX9 := Lib.hid (HXR.out.trans hx9)
                have hq : (((setsV x (L ++ oppC cl)).length : Int) == 0) = bb := by
                  rw [← HBB.out, Bool.eq_iff_iff, beq_iff_eq, decide_eq_true_eq]
                  omega
                clear hx9 c0 c1
                generalize ((setsV x (L ++ oppC cl)).length : Int) = z at hq ⊢
                generalize bCheckV x (L ++ oppC cl) = bcz
                go_wp2_with fail
                refine (law22awake_c _).mono ?_
                rintro e w10 ⟨rfl, hx10⟩
                go_wp2_with fail
                go_ret
                exact ⟨rfl, HX9.out.trans hx10⟩
          · have HCN : Hid ((bFollowsV x L cl).2 = cCheckV cl x) := by unfold Hid bFollowsV; rw [if_neg (by simp [HBC.out]), if_pos hcc]
            have hne : (cCheckV cl x != 0) = true := by simpa using hcc
            clear hcc
            go_enter Try.func6, Try.ntmps6
            go_wp2_with fail
            refine (few22_c x _ _ _ L _ (HF.out.ext HX0.out)).mono ?_
            rintro e w1 ⟨rfl, hx⟩
            rw [HW.out]
            have HX1 := Lib.hid (HX0.out.trans hx)
            have HB := Lib.hid (HB.out.ext hx)
            clear hx
            have b0 : w1.cell? ⟨w.heap.size, 0, none⟩ = some (.int .i64 x) := HB.out.cell 0
            have b1 : w1.cell? ⟨w.heap.size, 1, none⟩ = some (.slice A n c) := HB.out.cell 1
            go_wp2_with fail
            refine (rCheck_c l x _).mono ?_
            rintro e w' ⟨rfl, rfl⟩
            rw [HCK.out]
            go_wp2_with fail
            refine (count_c x _ _ _ L _ (HF.out.ext HX1.out) (by omega)).mono ?_
            rintro e w2 ⟨rfl, hx⟩
            rw [HBC.out]
            have HX2 := Lib.hid (HX1.out.trans hx)
            have HB := Lib.hid (HB.out.ext hx)
            clear hx
            clear b0 b1
            have b0 : w2.cell? ⟨w.heap.size, 0, none⟩ = some (.int .i64 x) := HB.out.cell 0
            have b1 : w2.cell? ⟨w.heap.size, 1, none⟩ = some (.slice A n c) := HB.out.cell 1
            have hb1 := (Blk.new (w2.alloc (Obj.cells #[.int .i64 (l)] 3)) 40 #[.slice (some ⟨w2.heap.size, 0, none⟩) 1 1])
            rw [World.size_alloc] at hb1
            have hs1 := (intSl_new w2 #[.int .i64 (l)] 3 [l] 1 rfl rfl (by decide) (by intro y hy; simp at hy; subst hy; omega)).ext ((Ext.refl _).alloc (Obj.cells #[.slice (some ⟨w2.heap.size, 0, none⟩) 1 1] 40))
            have HB1 := Lib.hid hb1
            have HS1 := Lib.hid hs1
            clear hb1 hs1
            go_wp2_with fail
            refine (with1_c x _ _ _ L (l) _ _ ((HF.out.ext HX2.out).ext (((Ext.refl _).alloc _).alloc _)) (by simpa using HB1.out) (by simpa using HS1.out) HCK.out (by have := HF.out.1; omega) (fun xs hxs => by have := HL50.out xs hxs; omega)).mono ?_
            rintro e w3 ⟨A5, c5, rfl, hs5, hx, _⟩
            have HS5 := Lib.hid hs5
            clear hs5 HB1 HS1
            have HX3 := Lib.hid (HX2.out.trans ((((Ext.refl _).alloc _).alloc _).trans hx))
            have HB := Lib.hid (HB.out.ext ((((Ext.refl _).alloc _).alloc _).trans hx))
            clear hx
            clear b0 b1
            have b0 : w3.cell? ⟨w.heap.size, 0, none⟩ = some (.int .i64 x) := HB.out.cell 0
            have b1 : w3.cell? ⟨w.heap.size, 1, none⟩ = some (.slice A n c) := HB.out.cell 1
            go_wp2_with fail
            refine (count_c x _ _ _ (L ++ [[l]]) _ HS5.out (by have := HF.out.1; omega)).mono ?_
            rintro e w4 ⟨rfl, hx⟩
            clear HS5
            have HX4 := Lib.hid (HX3.out.trans hx)
            have HB := Lib.hid (HB.out.ext hx)
            clear hx
            clear b0 b1
            have b0 : w4.cell? ⟨w.heap.size, 0, none⟩ = some (.int .i64 x) := HB.out.cell 0
            have b1 : w4.cell? ⟨w.heap.size, 1, none⟩ = some (.slice A n c) := HB.out.cell 1
            generalize bCheckV x (L ++ [[l]]) = bc1
            have hb1 := (Blk.new (w4.alloc (Obj.cells #[.int .i64 (-l)] 3)) 40 #[.slice (some ⟨w4.heap.size, 0, none⟩) 1 1])
            rw [World.size_alloc] at hb1
            have hs1 := (intSl_new w4 #[.int .i64 (-l)] 3 [-l] 1 rfl rfl (by decide) (by intro y hy; simp at hy; subst hy; omega)).ext ((Ext.refl _).alloc (Obj.cells #[.slice (some ⟨w4.heap.size, 0, none⟩) 1 1] 40))
            have HB1 := Lib.hid hb1
            have HS1 := Lib.hid hs1
            clear hb1 hs1
            go_wp2_with fail
            refine (with1_c x _ _ _ L (-l) _ _ ((HF.out.ext HX4.out).ext (((Ext.refl _).alloc _).alloc _)) (by simpa using HB1.out) (by simpa using HS1.out) (checkV_neg HCK.out) (by have := HF.out.1; omega) (fun xs hxs => by have := HL50.out xs hxs; omega)).mono ?_
            rintro e w5 ⟨A5, c5, rfl, hs5, hx, _⟩
            have HS5 := Lib.hid hs5
            clear hs5 HB1 HS1
            have HX5 := Lib.hid (HX4.out.trans ((((Ext.refl _).alloc _).alloc _).trans hx))
            have HB := Lib.hid (HB.out.ext ((((Ext.refl _).alloc _).alloc _).trans hx))
            clear hx
            clear b0 b1
            have b0 : w5.cell? ⟨w.heap.size, 0, none⟩ = some (.int .i64 x) := HB.out.cell 0
            have b1 : w5.cell? ⟨w.heap.size, 1, none⟩ = some (.slice A n c) := HB.out.cell 1
            go_wp2_with fail
            refine (count_c x _ _ _ (L ++ [[-l]]) _ HS5.out (by have := HF.out.1; omega)).mono ?_
            rintro e w6 ⟨rfl, hx⟩
            clear HS5
            have HX6 := Lib.hid (HX5.out.trans hx)
            have HB := Lib.hid (HB.out.ext hx)
            clear hx
            clear b0 b1
            have b0 : w6.cell? ⟨w.heap.size, 0, none⟩ = some (.int .i64 x) := HB.out.cell 0
            have b1 : w6.cell? ⟨w.heap.size, 1, none⟩ = some (.slice A n c) := HB.out.cell 1
            generalize bCheckV x (L ++ [[-l]]) = bc2
            have hws : IntKind.i64.wrap (((setsV x (L ++ [[l]])).length : Int) + ((setsV x (L ++ [[-l]])).length : Int)) = ((setsV x L).length : Int) := by rw [IntWalk.i64_in _ (by have := HSP.out; omega)]; have := HSP.out; omega
            go_wp2_with fail
            refine (bfollows_c x _ _ _ L _ _ _ cl _ (HF.out.ext HX6.out) (by omega) (HC.out.ext HX6.out)).mono ?_
            rintro e w7 ⟨rfl, hx⟩
            rw [HCN.out]
            generalize cCheckV cl x = y at hne
            generalize (bFollowsV x L cl).1 = p
            have HX7 := Lib.hid (HX6.out.trans hx)
            have HB := Lib.hid (HB.out.ext hx)
            clear hx
            clear b0 b1
            have b0 : w7.cell? ⟨w.heap.size, 0, none⟩ = some (.int .i64 x) := HB.out.cell 0
            have b1 : w7.cell? ⟨w.heap.size, 1, none⟩ = some (.slice A n c) := HB.out.cell 1
            go_wp2_with fail
            refine (law22awake_c _).mono ?_
            rintro e w8 ⟨rfl, hx⟩
            have HX8 := Lib.hid (HX7.out.trans hx)
            have HB := Lib.hid (HB.out.ext hx)
            clear hx
            clear b0 b1
            have b0 : w8.cell? ⟨w.heap.size, 0, none⟩ = some (.int .i64 x) := HB.out.cell 0
            have b1 : w8.cell? ⟨w.heap.size, 1, none⟩ = some (.slice A n c) := HB.out.cell 1
            go_wp2_with fail
            go_ret
            exact ⟨rfl, HX8.out⟩
        · have hne : (bCheckV x L != 0) = true := by simpa using hbc
          clear hbc
          go_enter Try.func6, Try.ntmps6
          go_wp2_with fail
          refine (few22_c x _ _ _ L _ (HF.out.ext HX0.out)).mono ?_
          rintro e w1 ⟨rfl, hx⟩
          rw [HW.out]
          have HX1 := Lib.hid (HX0.out.trans hx)
          have HB := Lib.hid (HB.out.ext hx)
          clear hx
          have b0 : w1.cell? ⟨w.heap.size, 0, none⟩ = some (.int .i64 x) := HB.out.cell 0
          have b1 : w1.cell? ⟨w.heap.size, 1, none⟩ = some (.slice A n c) := HB.out.cell 1
          go_wp2_with fail
          refine (rCheck_c l x _).mono ?_
          rintro e w' ⟨rfl, rfl⟩
          rw [HCK.out]
          go_wp2_with fail
          refine (count_c x _ _ _ L _ (HF.out.ext HX1.out) (by omega)).mono ?_
          rintro e w2 ⟨rfl, hx⟩
          generalize bCheckV x L = y at hne
          have HX2 := Lib.hid (HX1.out.trans hx)
          have HB := Lib.hid (HB.out.ext hx)
          clear hx
          clear b0 b1
          have b0 : w2.cell? ⟨w.heap.size, 0, none⟩ = some (.int .i64 x) := HB.out.cell 0
          have b1 : w2.cell? ⟨w.heap.size, 1, none⟩ = some (.slice A n c) := HB.out.cell 1
          go_wp2_with fail
          refine (law22awake_c _).mono ?_
          rintro e w3 ⟨rfl, hx⟩
          have HX3 := Lib.hid (HX2.out.trans hx)
          have HB := Lib.hid (HB.out.ext hx)
          clear hx
          clear b0 b1
          have b0 : w3.cell? ⟨w.heap.size, 0, none⟩ = some (.int .i64 x) := HB.out.cell 0
          have b1 : w3.cell? ⟨w.heap.size, 1, none⟩ = some (.slice A n c) := HB.out.cell 1
          go_wp2_with fail
          go_ret
          exact ⟨rfl, HX3.out⟩
end Go.Proofs.Ytdiapihfjmbgoaa
