/- LratRuns: for every input the law answers true, and its arguments read as they did. -/
import Derived.Test.YtdgflniahoidmaaRows
import Derived.Test.YtdgflniahoidmaaLawLratRunsC
import Derived.Test.YtdgflniahoidmaaOpenSt
import Derived.Test.YtdgflniahoidmaaOpen2
set_option maxRecDepth 100000
namespace Go.Proofs.Ytdgflniahoidmaa.lawLratRuns
open Go.ChangeShapes Go.WideShapes Go.ChangeAt Go.RowKit

theorem own : ownKnob Try.prog.godebug = none := by kernel_rfl
theorem laid : laidOutB Try.prog = true := by kernel_rfl
theorem cells_int : Try.prog.cellsOf 3 = 1 := by kernel_rfl
theorem cells_ints : Try.prog.cellsOf 40 = 1 := by kernel_rfl
theorem cells_step : Try.prog.cellsOf 42 = 4 := by kernel_rfl
theorem cells_formula : Try.prog.cellsOf 24 = 2 := by kernel_rfl
theorem readable : Try.f4.params.toList.all (fun t => Try.prog.readableRec t && decide (t < Try.prog.types.size)) = true := by kernel_rfl

set_option maxRecDepth 100000 in
theorem lifted (os : Os) (started : os.Started) (H : Type) (enc : TypeId × Value → H) :
    ReturnsInHanded {} Try.checked os 4 .any (Rows.lratRunsSpec.pre6 enc Try.prog Try.f4 Rows.lratRunsRow.domain false) (Rows.lratRunsSpec.post enc Try.prog Try.f4 false true false false) := by
  refine returnsInHanded_of_change (C := Try.checked) own started (by kernel_rfl) Try.func4
    (ChangeSpec.witness6 (enc := enc) (C := Try.checked) false ⟨#[], #[.agg #[.int .i64 0, .slice none 0 0], .slice none 0 0], []⟩ 8 (by kernel_rfl) (by kernel_rfl) (by kernel_rfl) (by kernel_rfl)) ?_
  intro W base args ds gs before hval0 hW _ _
  have hval : ∀ (j : Nat) t v, Try.f4.params[j]? = some t → args[j]? = some v → Value.okWide Try.prog W .any base t v := hval0
  have hW' := hW
  obtain ⟨p, q, hA0, hV, rfl, _, _⟩ := hW
  have hA : DataW.TrodAll enc Try.prog W 0 (fun _ => true) true Try.f4.params.toList args.toList ds p := hA0
  rw [Try.params4] at hA hval
  obtain ⟨v0, vs0, d0, ds0, p0, q0, hargs, rfl, rfl, h0, r0⟩ := trodAll_cons hA
  obtain ⟨v1, vs1, d1, ds1, p1, q1, rfl, rfl, rfl, h1, r1⟩ := trodAll_cons r0
  obtain ⟨rfl, rfl, rfl⟩ := trodAll_nil r1
  obtain rfl : args = #[v0, v1] := by cases args; simp_all
  obtain ⟨rfl, rfl⟩ := trodVars_none hV
  obtain ⟨x0, A0, n0, c0, a0, rfl, s0⟩ := open_formula Try.underlying24 (by kernel_rfl) cells_formula Try.underlying3 Try.underlying22 Try.underlying40 Try.underlying3 cells_ints cells_int (hval 0 24 v0 rfl rfl) h0
  obtain ⟨A1, n1, c1, a1, rfl, s1⟩ := open_steps Try.underlying25 Try.underlying42 (by kernel_rfl) Try.underlying3 Try.underlying40 ⟨by kernel_rfl, rfl, rfl, rfl⟩ cells_step cells_int (hval 1 25 v1 rfl rfl) h1
  clear hA0 hval0
  refine (lawLratRuns_c x0 A0 n0 c0 a0 A1 n1 c1 a1 W s0 s1).mono fun e W' ⟨he, hb⟩ => ?_
  subst he
  exact ⟨_, rfl, law_post laid readable Try.underlying4 rfl rfl hW' rfl rfl rfl hb⟩

theorem proved : Rows.LratRunsSaid :=
  OpenClaim.holds_of_wide 4 Try.f4 rfl rfl rfl rfl rfl rfl rfl ⟨rfl, rfl, rfl, rfl, rfl⟩ rfl rfl rfl rfl rfl (by kernel_rfl) Try.func4 (by kernel_rfl)
    (of_decide_eq_true (by kernel_rfl)) (by unfold Func.isWrapper; first | (rw [if_pos (by decide +kernel)]; kernel_rfl) | (rw [if_neg (by decide +kernel)]; exact ⟨rfl, rfl⟩))
    (fun os started H enc _ => lifted os started H enc)
#print axioms proved
end Go.Proofs.Ytdgflniahoidmaa.lawLratRuns
