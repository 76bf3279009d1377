/- RatAdds: for every input the law answers true, and its arguments read as they did. -/
import Derived.Test.YtdhohoabcokdjaaRows
import Derived.Test.YtdhohoabcokdjaaOpenCase9
import Derived.Test.YtdhohoabcokdjaaLawRatAddsC
set_option maxRecDepth 100000
namespace Go.Proofs.Ytdhohoabcokdjaa.lawRatAdds
open Go.ChangeShapes Go.WideShapes Go.ChangeAt Go.RowKit

theorem own : ownKnob Try.prog.godebug = none := by kernel_rfl
theorem laid : laidOutB Try.prog = true := by kernel_rfl
theorem cells_int : Try.prog.cellsOf 3 = 1 := by kernel_rfl
theorem cells_bool : Try.prog.cellsOf 4 = 1 := by kernel_rfl
theorem cells_ints : Try.prog.cellsOf 22 = 1 := by kernel_rfl
theorem cells_case9 : Try.prog.cellsOf 61 = 4 := by kernel_rfl
theorem readable : Try.f7.params.toList.all (fun t => Try.prog.readableRec t && decide (t < Try.prog.types.size)) = true := by kernel_rfl

set_option maxRecDepth 100000 in
theorem lifted (os : Os) (started : os.Started) (H : Type) (enc : TypeId × Value → H) :
    ReturnsInHanded {} Try.checked os 7 .any (Rows.ratAddsSpec.pre6 enc Try.prog Try.f7 Rows.ratAddsRow.domain false) (Rows.ratAddsSpec.post enc Try.prog Try.f7 false true false false) := by
  refine returnsInHanded_of_change (C := Try.checked) own started (by kernel_rfl) Try.func7
    (ChangeSpec.witness6 (enc := enc) (C := Try.checked) false ⟨#[], #[.agg #[.slice none 0 0, .slice none 0 0, .slice none 0 0, .slice none 0 0], .slice none 0 0], []⟩ 8 (by kernel_rfl) (by kernel_rfl) (by kernel_rfl) (by kernel_rfl)) ?_
  intro W base args ds gs before hval0 hW _ _
  have hval : ∀ (j : Nat) t v, Try.f7.params[j]? = some t → args[j]? = some v → Value.okWide Try.prog W .any base t v := hval0
  have hW' := hW
  obtain ⟨p, q, hA0, hV, rfl, _, _⟩ := hW
  have hA : DataW.TrodAll enc Try.prog W 0 (fun _ => true) true Try.f7.params.toList args.toList ds p := hA0
  rw [Try.params7] at hA hval
  obtain ⟨v0, vs0, d0, ds0, p0, q0, hargs, rfl, rfl, h0, r0⟩ := trodAll_cons hA
  obtain ⟨v1, vs1, d1, ds1, p1, q1, rfl, rfl, rfl, h1, r1⟩ := trodAll_cons r0
  obtain ⟨rfl, rfl, rfl⟩ := trodAll_nil r1
  obtain rfl : args = #[v0, v1] := by cases args; simp_all
  obtain ⟨rfl, rfl⟩ := trodVars_none hV
  obtain ⟨A0, n0, c0, a0, A0', n0', c0', a0', B0, m0, d0, x0, B0', m0', d0', x0', rfl, s0⟩ := open_case9 Try.underlying61 (by kernel_rfl) cells_case9 Try.underlying23 Try.underlying22 Try.underlying22 Try.underlying23 Try.underlying22 Try.underlying3 cells_ints cells_int (hval 0 61 v0 rfl rfl) h0
  obtain ⟨A1, n1, c1, a1, rfl, s1⟩ := open_boolSl Try.underlying45 Try.underlying4 cells_bool (hval 1 45 v1 rfl rfl) h1
  clear hA0 hval0
  refine (lawRatAdds_c A0 n0 c0 a0 A0' n0' c0' a0' B0 m0 d0 x0 B0' m0' d0' x0' A1 n1 c1 a1 W s0 s1).mono fun e W' ⟨he, hb⟩ => ?_
  subst he
  exact ⟨_, rfl, law_post laid readable Try.underlying4 rfl rfl hW' rfl rfl rfl hb⟩

theorem proved : Rows.RatAddsSaid :=
  OpenClaim.holds_of_wide 7 Try.f7 rfl rfl rfl rfl rfl rfl rfl ⟨rfl, rfl, rfl, rfl, rfl⟩ rfl rfl rfl rfl rfl (by kernel_rfl) Try.func7 (by kernel_rfl)
    (of_decide_eq_true (by kernel_rfl)) (by unfold Func.isWrapper; first | (rw [if_pos (by decide +kernel)]; kernel_rfl) | (rw [if_neg (by decide +kernel)]; exact ⟨rfl, rfl⟩))
    (fun os started H enc _ => lifted os started H enc)
#print axioms proved
end Go.Proofs.Ytdhohoabcokdjaa.lawRatAdds
