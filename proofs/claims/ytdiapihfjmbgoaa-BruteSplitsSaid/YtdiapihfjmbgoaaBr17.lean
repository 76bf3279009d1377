/- Layer 22 (brute), the reference: All. -/
import Derived.Test.YtdiapihfjmbgoaaBr16
import Derived.Deep.LoopGhost
set_option maxRecDepth 100000
namespace Go.Proofs.Ytdiapihfjmbgoaa
open Go.RowKit

/-- A slice of its own of truths. -/
def BOwn (base : Nat) (W : World) (u : Value) (ms : List (List Bool)) : Prop :=
  ∃ vs : List Value, W.ownsRow base 33 1 u vs.length vs ∧ vs.length = ms.length ∧ ∀ (j : Nat) (m : List Bool), ms[j]? = some m → ∃ A k c, vs[j]? = some (.slice A k c) ∧ RowB W A k m
theorem BOwn.ext {base : Nat} {W W' : World} {u : Value} {ms : List (List Bool)} (h : BOwn base W u ms) (hx : Ext W W') : BOwn base W' u ms := by
  obtain ⟨vs, h2, h3, h4⟩ := h
  exact ⟨vs, OwnV.ext h2 hx, h3, fun j m hj => let ⟨A, k, c, e, hr⟩ := h4 j m hj; ⟨A, k, c, e, hr.ext hx⟩⟩
theorem BOwn.nil (base : Nat) (W : World) : BOwn base W (.slice none 0 0) [] := ⟨[], World.ownsRow_nil _ _ _ _, rfl, fun j m hj => by simp at hj⟩
theorem BOwn.rows {base : Nat} {W : World} {u : Value} {ms : List (List Bool)} (h : BOwn base W u ms) (hl : ms.length ≤ 1000000) : ∃ A c, u = .slice A ms.length c ∧ BRows W A ms.length ms := by
  obtain ⟨vs, h2, h3, h4⟩ := h
  obtain ⟨A, c, rfl, hs, _⟩ := OwnV.sl (us := vs) h2 (by omega)
  refine ⟨A, c, by rw [h3], rfl, by omega, fun h0 => ?_⟩
  obtain ⟨ad, e, hc⟩ := hs.2.2 (by omega)
  refine ⟨ad, e, fun j m hj => ?_⟩
  obtain ⟨A', k', c', e1, hr⟩ := h4 j m hj
  exact ⟨A', k', c', hc j _ e1, hr.sl⟩
theorem BOwn.snoc {base : Nat} {W w5 w6 : World} {vs : List Value} {ms : List (List Bool)} {B : Option Addr} {k cc : Nat} {u' : Value} {m : List Bool} (hvl : vs.length = ms.length) (hrows : ∀ (j : Nat) (y : List Bool), ms[j]? = some y → ∃ A k c, vs[j]? = some (.slice A k c) ∧ RowB W A k y) (hbs : RowB w5 B k m) (hX5 : Ext W w5) (hkt : KT TK w5 w6)
    (hu : w6.ownsRow base 33 1 u' (vs.length + 1) (vs ++ [.slice B k cc])) : BOwn base w6 u' (ms ++ [m]) := by
  refine ⟨vs ++ [.slice B k cc], by rw [List.length_append]; exact hu, by simp [hvl], fun j y hj => ?_⟩
  by_cases hlt : j < ms.length
  · rw [List.getElem?_append_left hlt] at hj
    obtain ⟨A, k', c, e, hr⟩ := hrows j y hj
    exact ⟨A, k', c, by rw [List.getElem?_append_left (by omega)]; exact e, (hr.ext hX5).kt hkt rfl⟩
  · rw [List.getElem?_append_right (by omega)] at hj
    have hj0 : j - ms.length = 0 := by
      have := (List.getElem?_eq_some_iff.1 hj).1
      simp at this; omega
    rw [hj0] at hj
    cases hj
    exact ⟨B, k, cc, by rw [List.getElem?_append_right (by omega), hvl, hj0]; rfl, hbs.kt hkt rfl⟩
theorem own_ge {W : World} {base size n : Nat} {e : TypeId} {v : Value} {us : List Value} (h : W.ownsRow base e size v n us) : ∀ k, v.ownBlock = some k → base ≤ k := by
  intro k hk
  rcases h.2 with ⟨rfl, _⟩ | ⟨g, cap, cur, rfl, hb, _⟩
  · simp [Value.ownBlock] at hk
  · have : g = k := by simpa [Value.ownBlock] using hk
    omega
theorem bitsV_zero (n : Nat) : bitsV 0 n = List.replicate n false := by
  apply List.ext_getElem?
  intro j
  by_cases h : j < n
  · rw [bitsV_get 0 h, List.getElem?_replicate, if_pos h, Nat.zero_testBit]
  · rw [List.getElem?_eq_none (by rw [bitsV_len]; omega), List.getElem?_eq_none (by simp; omega)]
theorem modelsV_up {v : Nat} {L : List (List Int)} (h : bCheckV v L = 0) : modelsV v L = (upN v L (2 ^ v)).map fun m => bitsV m v := by
  unfold modelsV setsV upN
  rw [if_pos h, Int.toNat_natCast]
theorem modelsV_nil {v : Int} {L : List (List Int)} (h : bCheckV v L ≠ 0) : modelsV v L = [] := by
  unfold modelsV setsV
  rw [if_neg h]; rfl
theorem modelsV_len (v : Int) (L : List (List Int)) : (modelsV v L).length ≤ 65536 := by unfold modelsV; rw [List.length_map]; exact setsV_len v L

set_option maxRecDepth 100000 in
set_option maxHeartbeats 4000000 in
theorem r22All_c (v : Int) (A : Option Addr) (n c : Nat) (L : List (List Int)) (w : World) (h : RowsW w A n L) :
    Calls Try.prog 9 #[.agg #[.int .i64 v, .slice A n c]] w fun e w' => ∃ A' c', e = .returned (.slice A' (modelsV v L).length c') ∧ BRows w' A' (modelsV v L).length (modelsV v L) ∧ Ext w w' := by
  have hX := (Ext.refl w).alloc (Obj.cells #[.int .i64 v, .slice A n c] 24)
  have HB := Lib.hid (Blk.new w 24 #[.int .i64 v, .slice A n c])
  have HX := Lib.hid hX
  have HR := Lib.hid (h.ext hX)
  have HRW := Lib.hid h
  clear h hX
  by_cases hc : bCheckV v L = 0
  · obtain ⟨hv0, hv16, _⟩ := bCheck_ok hc
    obtain ⟨vn, rfl⟩ := Int.eq_ofNat_of_zero_le hv0
    have hvn : vn ≤ 16 := by omega
    obtain ⟨i0, hi, hz0, hz1, hz2⟩ := info_parts infoBool
    have hmk := fun W => run_make_rowN (P := Try.prog) 33 4 i0 _ Try.underlying33 hi hz0 .i64 .i64 vn vn (Nat.le_refl _) (by rw [hz2]; omega) (by omega) W
    rw [hz1, Nat.mul_one, show (Value.bool false).cells = #[Value.bool false] from rfl] at hmk
    have HC := Lib.hid hc
    have HM := Lib.hid (modelsV_up hc)
    have hp16 : 2 ^ vn ≤ 65536 := Nat.pow_le_pow_right (by decide) hvn
    have hp1 : 1 ≤ 2 ^ vn := Nat.one_le_two_pow
    obtain ⟨N, hN⟩ : ∃ N, 2 ^ vn = N := ⟨_, rfl⟩
    rw [hN] at HM hp16 hp1
    have HN := Lib.hid hN
    clear hi hz0 hz1 hz2 hc hv0 hv16 hN
    go_enter Try.func9, Try.ntmps9
    go_wp2_with fail
    refine (r22Check_c (vn : Int) _ _ _ L _ HR.out).mono ?_
    rintro e w1 ⟨rfl, hx1⟩
    rw [HC.out]
    have b1 := HB.out.ext hx1
    have a0 : w1.cell? ⟨w.heap.size, 0, none⟩ = some (.int .i64 (vn : Int)) := b1.cell 0
    have HX1 := Lib.hid (HX.out.trans hx1)
    have HB1 := Lib.hid b1
    clear hx1 b1
    go_wp2_with fail
    go_loopg [3, 4, 5] N (fun gg u mm mo wr => ∃ k : Nat, k + gg = N ∧ ((mo = .bool true ∧ 0 < gg ∧ ∃ A' k' c', mm = .slice A' k' c' ∧ RowB wr A' k' (bitsV k vn)) ∨ (mo = .bool false ∧ gg = 0)) ∧ BOwn w1.heap.size wr u ((upN vn L k).map fun m => bitsV m vn) ∧ Ext w1 wr)
    case atStart =>
      refine ⟨0, by omega, .inl ⟨rfl, by omega, _, _, _, rfl, ?_⟩, BOwn.nil _ _, (Ext.refl w1).alloc _⟩
      refine ⟨_, _, rfl, Blk.new w1 4 (madeCells #[Value.bool false] vn), bitsV_len 0 vn, by omega, fun j x hj => ?_⟩
      rw [bitsV_zero, List.getElem?_replicate] at hj
      by_cases hjv : j < vn
      · rw [if_pos hjv] at hj
        cases hj
        rw [← fillG_zero (fun _ => Value.bool false), fillG_at _ _ _ _ _ hjv]
        simp
      · rw [if_neg hjv] at hj
        cases hj
    case round =>
      obtain ⟨k, hkg, hmm, hown, hxr⟩ := hrel
      rcases hmm with ⟨rfl, hg0, A', k', c', rfl, hrow⟩ | ⟨rfl, rfl⟩
      · have hkN : k < 2 ^ vn := by rw [HN.out]; omega
        have HNX := Lib.hid (nextB_bits vn k hkN)
        have hup := upN_succ vn L k
        have HOF : Hid (holdsF (vn : Int) L (bitsV k vn) = decide (firstV L (bitsV k vn) < 0)) := by
          unfold Hid holdsF
          rw [bitsV_len, decide_eq_true rfl, Bool.true_and]
        have hb1 := HB1.out.ext hxr
        have y0 : wr.cell? ⟨w.heap.size, 0, none⟩ = some (.int .i64 (vn : Int)) := hb1.cell 0
        have y1 : wr.cell? ⟨w.heap.size, 1, none⟩ = some (.slice A n c) := hb1.cell 1
        have hk' : k' = vn := by obtain ⟨_, _, _, _, h1, _⟩ := hrow; rw [← h1, bitsV_len]
        obtain ⟨vs, hu, hvl, hrows⟩ := hown
        have hvs : vs.length ≤ 65536 := by
          rw [hvl, List.length_map]
          unfold upN
          have := List.length_filter_le (fun m => decide (firstV L (bitsV m vn) < 0)) (List.range k)
          rw [List.length_range] at this
          omega
        have HROW := Lib.hid hrow
        have HXR := Lib.hid hxr
        have HRR := Lib.hid (HRW.out.sl.ext (HX1.out.trans hxr))
        have HVL := Lib.hid hvl
        have HROWS := Lib.hid hrows
        subst hk'
        clear hrow hb1 hvl hrows
        cases hf : decide (firstV L (bitsV k k') < 0) with
        | true =>
          have hf' : firstV L (bitsV k k') < 0 := by simpa using hf
          rw [if_pos hf'] at hup
          have HF := Lib.hid hf
          have HUP := Lib.hid hup
          clear hf hf' hup
          go_wp2_with fail
          refine (r4Holds_c (k' : Int) _ _ _ L _ _ _ (bitsV k k') _ HRR.out HROW.out.sl).mono ?_
          rintro e w5 ⟨rfl, hx5⟩
          rw [HOF.out, HF.out]
          have hX5 := hx5
          have hu5 := OwnV.ext hu hx5
          have hbase : w1.heap.size ≤ w5.heap.size := Nat.le_trans hxr.size hx5.size
          clear hx5
          go_wp2_with (at_builtin; refine appendV eltB _ rfl (.tmp 17) (.tmp 19) rfl w1.heap.size u3 vs.length vs rfl (OwnV.alloc hu5 _) (some ⟨w5.heap.size, 0, none⟩) 1 1 [.slice A' k' c'] rfl (cell_sl1 _ _ _) ?_ ?_ ?_ ?_; exact (by intro x hx; cases hx with | head => rfl | tail _ h => cases h); omega; (rw [World.size_alloc]; omega); intro v' w7 hown' hgrow _)
          have hkt : KT TK w5 w7 := (KT.ext ((Ext.refl w5).alloc _)).trans (KT.own (T := TK) (OwnV.alloc hu5 _) rfl hgrow)
          have hX7 : Ext w1 w7 := ((hxr.trans hX5).alloc _).grown hgrow (own_ge hu5)
          have hown7 : BOwn w1.heap.size w7 v' ((upN k' L (k + 1)).map fun m => bitsV m k') := by
            rw [HUP.out, List.map_append]
            exact BOwn.snoc HVL.out HROWS.out (HROW.out.ext hX5) hX5 hkt hown'
          have HOWN7 := Lib.hid hown7
          have HX7 := Lib.hid hX7
          have HROW7 := Lib.hid ((HROW.out.ext hX5).kt hkt rfl)
          clear hown' hgrow hkt hX7 hown7 hX5 hu5 hu
          go_wp2_with fail
          refine (r22Next_c A' k' c' (bitsV k k') _ HROW7.out.sl (by omega)).mono ?_
          rintro e w6 ⟨A6, k6, c6, ok, rfl, hx6, hn6⟩
          rw [HNX.out] at hn6
          have HX6 := Lib.hid (HX7.out.trans hx6)
          have HOWN : Hid (BOwn w1.heap.size w6 v' ((upN k' L (k + 1)).map fun m => bitsV m k')) := HOWN7.out.ext hx6
          clear hx6
          by_cases hlast : k + 1 < 2 ^ k'
          · rw [if_pos hlast] at hn6
            obtain ⟨rfl, hrow6⟩ := hn6
            have HROW6 := Lib.hid hrow6
            have hgk : 1 < gk := by rw [HN.out] at hlast; omega
            clear hrow6 hlast
            go_wp2_with fail
            go_roundg (gk - 1)
            case rel => exact ⟨k + 1, by omega, .inl ⟨rfl, by omega, _, _, _, rfl, HROW6.out⟩, HOWN.out, HX6.out⟩
            case measure => omega
          · rw [if_neg hlast] at hn6
            have hgk : gk = 1 := by rw [HN.out] at hlast; omega
            subst hn6
            clear hlast
            go_wp2_with fail
            go_roundg (gk - 1)
            case rel => exact ⟨k + 1, by omega, .inr ⟨rfl, by omega⟩, HOWN.out, HX6.out⟩
            case measure => omega
        | false =>
          have hf' : ¬ firstV L (bitsV k k') < 0 := by simpa using hf
          rw [if_neg hf', List.append_nil] at hup
          have HF := Lib.hid hf
          have HUP := Lib.hid hup
          clear hf hf' hup
          go_wp2_with fail
          refine (r4Holds_c (k' : Int) _ _ _ L _ _ _ (bitsV k k') _ HRR.out HROW.out.sl).mono ?_
          rintro e w5 ⟨rfl, hx5⟩
          rw [HOF.out, HF.out]
          have HX5 := Lib.hid hx5
          clear hx5
          go_wp2_with fail
          refine (r22Next_c A' k' c' (bitsV k k') _ (HROW.out.ext HX5.out).sl (by omega)).mono ?_
          rintro e w6 ⟨A6, k6, c6, ok, rfl, hx6, hn6⟩
          rw [HNX.out] at hn6
          have HX6 := Lib.hid (HXR.out.trans (HX5.out.trans hx6))
          have HOWN : Hid (BOwn w1.heap.size w6 u3 ((upN k' L (k + 1)).map fun m => bitsV m k')) := by
            unfold Hid
            rw [HUP.out]
            exact BOwn.ext (show BOwn w1.heap.size wr u3 _ from ⟨vs, hu, HVL.out, HROWS.out⟩) (HX5.out.trans hx6)
          clear hx6
          by_cases hlast : k + 1 < 2 ^ k'
          · rw [if_pos hlast] at hn6
            obtain ⟨rfl, hrow6⟩ := hn6
            have HROW6 := Lib.hid hrow6
            have hgk : 1 < gk := by rw [HN.out] at hlast; omega
            clear hrow6 hlast
            go_wp2_with fail
            go_roundg (gk - 1)
            case rel => exact ⟨k + 1, by omega, .inl ⟨rfl, by omega, _, _, _, rfl, HROW6.out⟩, HOWN.out, HX6.out⟩
            case measure => omega
          · rw [if_neg hlast] at hn6
            have hgk : gk = 1 := by rw [HN.out] at hlast; omega
            subst hn6
            clear hlast
            go_wp2_with fail
            go_roundg (gk - 1)
            case rel => exact ⟨k + 1, by omega, .inr ⟨rfl, by omega⟩, HOWN.out, HX6.out⟩
            case measure => omega
      · have hkN : k = N := by omega
        subst hkN
        obtain ⟨A', c', rfl, hrows⟩ := hown.rows (by rw [← HM.out]; have := modelsV_len vn L; omega)
        rw [← HM.out] at hrows
        have HRO := Lib.hid hrows
        have HLN : Hid ((List.map (fun m => bitsV m vn) (upN vn L k)).length = (modelsV vn L).length) := by unfold Hid; rw [HM.out]
        have HXR := Lib.hid (HX1.out.trans hxr)
        clear hrows hxr hown
        rw [HLN.out]
        go_wp2_with fail
        go_ret
        exact ⟨_, _, rfl, HRO.out, HXR.out⟩
  · have hne : (bCheckV v L != 0) = true := by simpa using hc
    have HM := Lib.hid (modelsV_nil hc)
    clear hc
    go_enter Try.func9, Try.ntmps9
    go_wp2_with fail
    refine (r22Check_c v _ _ _ L _ HR.out).mono ?_
    rintro e w1 ⟨rfl, hx1⟩
    have HX1 := Lib.hid (HX.out.trans hx1)
    clear hx1
    generalize bCheckV v L = y at hne
    go_wp2
    go_ret
    exact ⟨none, 0, by rw [HM.out]; rfl, by rw [HM.out]; exact BRows.nil _, HX1.out⟩
end Go.Proofs.Ytdiapihfjmbgoaa
