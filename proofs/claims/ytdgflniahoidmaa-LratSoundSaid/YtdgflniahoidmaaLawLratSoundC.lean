/- LratSound answers true. -/
import Derived.Test.YtdgflniahoidmaaLr22
import Derived.Test.YtdgflniahoidmaaFirst
set_option maxRecDepth 100000
namespace Go.Proofs.Ytdgflniahoidmaa
open Go.RowKit

set_option maxHeartbeats 4000000 in
theorem lawLratSound_c (x : Int) (A : Option Addr) (n c : Nat) (L : List (List Int)) (A' : Option Addr) (n' c' : Nat) (l : List Stp) (A2 : Option Addr) (n2 c2 : Nat) (m : List Bool) (w : World) (hf : (-9223372036854775808 ≤ x ∧ x ≤ 9223372036854775807) ∧ RowsSl w A n L ∧ n ≤ c) (hs : StepsL w A' n' l) (hb : BoolSl w A2 n2 m) :
    Calls Try.prog 3 #[.agg #[.int .i64 x, .slice A n c], .slice A' n' c', .slice A2 n2 c2] w fun e w' => e = .returned (.bool true) ∧ Ext w w' := by
  have HX0 := Lib.hid ((Ext.refl w).alloc (Obj.cells #[.int .i64 x, .slice A n c] 24))
  have HB0 := Lib.hid (Blk.new w 24 #[.int .i64 x, .slice A n c])
  have HFO := Lib.hid hf.2.1
  have HLN := Lib.hid hf.2.1.1
  have HST := Lib.hid hs
  have HB := Lib.hid hb
  have HBN := Lib.hid hb.1
  have hbl := hb.2.1
  clear hf hs hb
  have b0 := HB0.out.cell 0
  have b1 := HB0.out.cell 1
  go_enter Try.func3, Try.ntmps3
  go_wp2_with fail
  refine (few11_c x _ _ _ L _ _ _ l _ (HFO.out.ext HX0.out) (HST.out.ext HX0.out)).mono ?_
  rintro e w1 ⟨r, rfl, hr, hx1⟩
  have HX1 := Lib.hid (HX0.out.trans hx1)
  have HB1 := Lib.hid (HB0.out.ext hx1)
  have c0 := HB1.out.cell 0
  have c1 := HB1.out.cell 1
  clear hx1 b0 b1
  cases r
  · go_wp2_with fail
    refine (awake11_c _).mono ?_
    rintro e w2 ⟨rfl, hx2⟩
    have HX2 := Lib.hid (HX1.out.trans hx2)
    clear hx2
    go_wp2_with fail
    go_ret
    exact ⟨rfl, HX2.out⟩
  · obtain ⟨hn60, hn60'⟩ := hr rfl
    by_cases hm : n2 ≤ 200
    · go_wp2_with fail
      refine (check_c x _ _ _ L _ _ _ l _ (HFO.out.ext HX1.out) (HST.out.ext HX1.out) (by omega) (by omega)).mono ?_
      rintro e w2 ⟨rfl, hx2⟩
      have HX2 := Lib.hid (HX1.out.trans hx2)
      have HB2 := Lib.hid (HB1.out.ext hx2)
      have d0 := HB2.out.cell 0
      have d1 := HB2.out.cell 1
      clear hx2 c0 c1
      obtain ⟨⟨r1, r2⟩, hRS⟩ : ∃ RS, checkL x L l = RS := ⟨_, rfl⟩
      have HRS := Lib.hid hRS
      rw [hRS]
      clear hRS
      by_cases hz : r2 = 0
      · subst hz
        have HPOS : Hid (¬ firstV L m < 0) := fun h => lrat_sound (v := x) (L := L) (l := l) (by rw [HLN.out]; omega) (by rw [HBN.out]; omega) h (by rw [HRS.out])
        go_wp2_with fail
        refine (rFirst_c x _ _ _ L _ _ _ m _ (HFO.out.ext HX2.out) (HB.out.ext HX2.out)).mono ?_
        rintro e w3 ⟨rfl, hx3⟩
        have HX3 := Lib.hid (HX2.out.trans hx3)
        clear hx3
        have hp := HPOS.out
        generalize firstV L m = q at hp
        go_wp2_with fail
        refine (awake11_c _).mono ?_
        rintro e w4 ⟨rfl, hx4⟩
        have HX4 := Lib.hid (HX3.out.trans hx4)
        clear hx4
        go_wp2_with fail
        go_ret
        exact ⟨rfl, HX4.out⟩
      · have hb : (r2 == 0) = false := by simpa using hz
        go_wp2_with fail
        refine (awake11_c _).mono ?_
        rintro e w4 ⟨rfl, hx4⟩
        have HX4 := Lib.hid (HX2.out.trans hx4)
        clear hx4
        go_wp2_with fail
        go_ret
        exact ⟨rfl, HX4.out⟩
    · go_wp2_with fail
      refine (awake11_c _).mono ?_
      rintro e w2 ⟨rfl, hx2⟩
      have HX2 := Lib.hid (HX1.out.trans hx2)
      clear hx2
      go_wp2_with fail
      go_ret
      exact ⟨rfl, HX2.out⟩
end Go.Proofs.Ytdgflniahoidmaa
