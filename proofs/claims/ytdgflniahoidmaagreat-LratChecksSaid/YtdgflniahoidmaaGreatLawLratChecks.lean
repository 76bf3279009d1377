/- LratChecks: for every input the law answers true, and its arguments read as they did. -/
import Derived.Test.YtdgflniahoidmaaGreatRows
import Derived.Test.YtdgflniahoidmaaGreatLawLratChecksC
import Derived.Test.YtdgflniahoidmaaGreatOpenW
set_option maxRecDepth 100000
namespace Go.Proofs.YtdgflniahoidmaaGreat.lawLratChecks
open Go.ChangeShapes Go.WideShapes Go.ChangeAt Go.RowKit

theorem own : ownKnob Tryz.prog.godebug = none := by kernel_rfl
theorem laid : laidOutB Tryz.prog = true := by kernel_rfl
theorem cells_int : Tryz.prog.cellsOf 3 = 1 := by kernel_rfl
theorem cells_ints : Tryz.prog.cellsOf 42 = 1 := by kernel_rfl
theorem cells_step : Tryz.prog.cellsOf 44 = 4 := by kernel_rfl
theorem cells_formula : Tryz.prog.cellsOf 24 = 2 := by kernel_rfl
theorem readable : Tryz.f3.params.toList.all (fun t => Tryz.prog.readableRec t && decide (t < Tryz.prog.types.size)) = true := by kernel_rfl

set_option maxRecDepth 100000 in
theorem lifted (os : Os) (started : os.Started) (H : Type) (enc : TypeId × Value → H) :
    ReturnsInHanded {} Tryz.checked os 3 .any (Rows.lratChecksSpec.pre6 enc Tryz.prog Tryz.f3 Rows.lratChecksRow.domain false) (Rows.lratChecksSpec.post enc Tryz.prog Tryz.f3 false true false false) := by
  refine returnsInHanded_of_change (C := Tryz.checked) own started (by kernel_rfl) Tryz.func3
    (ChangeSpec.witness6 (enc := enc) (C := Tryz.checked) false ⟨#[], #[.agg #[.int .i64 0, .slice none 0 0], .slice none 0 0], []⟩ 8 (by kernel_rfl) (by kernel_rfl) (by kernel_rfl) (by kernel_rfl)) ?_
  intro W base args ds gs before hval0 hW _ _
  have hval : ∀ (j : Nat) t v, Tryz.f3.params[j]? = some t → args[j]? = some v → Value.okWide Tryz.prog W .any base t v := hval0
  have hW' := hW
  obtain ⟨p, q, hA0, hV, rfl, _, _⟩ := hW
  have hA : DataW.TrodAll enc Tryz.prog W 0 (fun _ => true) true Tryz.f3.params.toList args.toList ds p := hA0
  rw [Tryz.params3] at hA hval
  obtain ⟨v0, vs0, d0, ds0, p0, q0, hargs, rfl, rfl, h0, r0⟩ := trodAll_cons hA
  obtain ⟨v1, vs1, d1, ds1, p1, q1, rfl, rfl, rfl, h1, r1⟩ := trodAll_cons r0
  obtain ⟨rfl, rfl, rfl⟩ := trodAll_nil r1
  obtain rfl : args = #[v0, v1] := by cases args; simp_all
  obtain ⟨rfl, rfl⟩ := trodVars_none hV
  obtain ⟨x0, A0, n0, c0, a0, rfl, s0⟩ := open_formulaW Tryz.underlying24 (by kernel_rfl) cells_formula Tryz.underlying3 Tryz.underlying22 Tryz.underlying42 Tryz.underlying3 cells_ints cells_int (hval 0 24 v0 rfl rfl) h0
  obtain ⟨A1, n1, c1, a1, rfl, s1⟩ := open_stepsW Tryz.underlying25 Tryz.underlying44 (by kernel_rfl) Tryz.underlying3 Tryz.underlying42 ⟨by kernel_rfl, rfl, rfl, rfl⟩ cells_step cells_int (hval 1 25 v1 rfl rfl) h1
  clear hA0 hval0
  refine (lawLratChecks_c x0 A0 n0 c0 a0 A1 n1 c1 a1 W s0 s1).mono fun e W' ⟨he, hb⟩ => ?_
  subst he
  exact ⟨_, rfl, law_post laid readable Tryz.underlying4 rfl rfl hW' rfl rfl rfl hb⟩

theorem proved : Rows.LratChecksSaid :=
  OpenClaim.holds_of_wide 3 Tryz.f3 rfl rfl rfl rfl rfl rfl rfl ⟨rfl, rfl, rfl, rfl, rfl⟩ rfl rfl rfl rfl rfl (by kernel_rfl) Tryz.func3 (by kernel_rfl)
    (of_decide_eq_true (by kernel_rfl)) (by unfold Func.isWrapper; first | (rw [if_pos (by decide +kernel)]; kernel_rfl) | (rw [if_neg (by decide +kernel)]; exact ⟨rfl, rfl⟩))
    (fun os started H enc _ => lifted os started H enc)
#print axioms proved
end Go.Proofs.YtdgflniahoidmaaGreat.lawLratChecks
