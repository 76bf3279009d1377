/- Layer 12 (arena): a row of the reference's is the same; awake. -/
import Derived.Test.YtbkimfefbdfkbaaAr11
import Derived.Test.YtbkimfefbdfkbaaSl
import Derived.Deep.QuietTactic
set_option maxRecDepth 100000
namespace Go.Proofs.Ytbkimfefbdfkbaa
open Go.RowKit

theorem sameRow_c (w : World) (x id : Int) (A : Option Addr) (n c : Nat) (A' : Option Addr) (n' c' : Nat) (xs : List Int) (b l : Bool) (h : IntSl w A n xs) (h' : IntSl w A' n' xs) :
    Calls Try.prog 38 #[.agg #[.int .i64 x, .int .i64 id, .slice A n c, .bool b, .bool l], .int .i64 id, .slice A' n' c', .bool b] w fun e w' => e = .returned (.bool true) ∧ Ext w w' := by
  have hX := (Ext.refl w).alloc (Obj.cells #[.int .i64 x, .int .i64 id, .slice A n c, .bool b, .bool l] 72)
  have HB := Lib.hid (Blk.new w 72 #[.int .i64 x, .int .i64 id, .slice A n c, .bool b, .bool l])
  have HX := Lib.hid hX
  have hse : sameV xs xs = true := by simp [sameV]
  have HSE := Lib.hid hse
  clear hX hse
  go_enter Try.func38, Try.ntmps38
  go_wp2_with fail
  refine (same_c _ _ _ xs _ _ _ xs _ (h.ext HX.out) (h'.ext HX.out)).mono ?_
  rintro e w1 ⟨rfl, hx1⟩
  rw [HSE.out]
  have y3 := (HB.out.ext hx1).cell 3
  have HX1 := Lib.hid hx1
  clear hx1
  go_wp2_with fail
  go_ret
  exact ⟨by simp, HX.out.trans HX1.out⟩

theorem arPutNil_c (A : Option Addr) (n c : Nat) (id : Int) (b : Bool) (w : World) : Calls Try.prog 57 #[.pointer none, .int .i64 id, .slice A n c, .bool b] w fun e w' => e = .returned (.tuple #[.int .i64 0, .int .i64 1]) ∧ w = w' := by
  go_enter Try.func57, Try.ntmps57
  go_wp2_with (go_at_call 66; refine (arMadeNil_c _).mono ?_; rintro e w' ⟨rfl, rfl⟩)
  go_ret2
  exact ⟨rfl, rfl⟩
theorem arSizeNil_c (w : World) : Calls Try.prog 37 #[.pointer none] w fun e w' => e = .returned (.int .i64 0) ∧ w = w' := by
  go_enter Try.func37, Try.ntmps37
  go_wp2_with (go_at_call 66; refine (arMadeNil_c _).mono ?_; rintro e w' ⟨rfl, rfl⟩)
  go_ret
  exact ⟨rfl, rfl⟩
def sA0 : ASt := ⟨[], 0⟩
def sA1 : ASt := putS sA0 7 [1, -2] false
def sA2 : ASt := putS sA1 8 [3] true
def sA3 : ASt := swapS sA2 0 0 1
def sA4 : ASt := dropS sA3 0
def sA5 : ASt := compS sA4
theorem awake12_facts : putAt sA0 7 [1, -2] = 0 ∧ putE 7 [1, -2] = 0 ∧ putAt sA1 8 [3] = 5 ∧ putE 8 [3] = 0 ∧ swapE sA2 0 0 1 = 0 ∧ litsA sA3.rows 0 = [-2, 1] ∧ sA3.size = 9 ∧ dropE sA3 0 = 0 ∧ allA sA4.rows = [5] ∧ headA sA5.rows 0 = 8 ∧ learntA sA5.rows 0 = true ∧ sA5.size = 4 ∧ dropE sA5 5 = 20 ∧ allA sA5.rows = [0] := by decide +kernel
theorem awake12_drop : dropS sA5 5 = sA5 := by
  unfold dropS
  rw [awake12_facts.2.2.2.2.2.2.2.2.2.2.2.2.1, if_neg (by decide)]
end Go.Proofs.Ytbkimfefbdfkbaa
