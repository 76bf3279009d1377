/- How the calls of layer 12 are opened. -/
import Derived.Test.YtbkimfefbdfkbaaOpenRecs
import Derived.Test.YtbkimfefbdfkbaaAr11
set_option maxRecDepth 100000
namespace Go.Proofs.Ytbkimfefbdfkbaa
open Go.RowKit Go.WideShapes Go.ChangeShapes Go.ChangeAt Go.Deep

theorem add_pos12 (a : Addr) (i j : Nat) (hj : j ≠ 0) : a.add (i + j) = ⟨(a.add i).block, (a.add i).off + j, none⟩ := by
  rw [← Addr.add_add]
  generalize a.add i = b
  unfold Addr.add
  rw [if_neg hj]
section
variable {H : Type} {enc : TypeId × Value → H} {P : Program} {W : World}
def OpenedA (W : World) (a : Addr) (i : Nat) (z : ActA) : Prop :=
  okB z ∧ ∃ A' n' c', W.cell? (a.add (i * 6)) = some (.int .i64 z.kind) ∧ W.cell? ⟨(a.add (i * 6)).block, (a.add (i * 6)).off + 1, none⟩ = some (.int .i64 z.num) ∧
    W.cell? ⟨(a.add (i * 6)).block, (a.add (i * 6)).off + 2, none⟩ = some (.int .i64 z.i1) ∧ W.cell? ⟨(a.add (i * 6)).block, (a.add (i * 6)).off + 3, none⟩ = some (.int .i64 z.i2) ∧ W.cell? ⟨(a.add (i * 6)).block, (a.add (i * 6)).off + 4, none⟩ = some (.slice A' n' c') ∧
    W.cell? ⟨(a.add (i * 6)).block, (a.add (i * 6)).off + 5, none⟩ = some (.bool z.learnt) ∧ IntSl W A' n' z.lits ∧ n' ≤ c'

theorem open_acts12 {t e i b s : TypeId} {f0 f1 f2 f3 f4 f5 : Field} {base : Nat} {v : Value} {d : DataW H} {p : List MemPlace} (ht : P.underlying t = some (.slice e)) (he : P.underlying e = some (.struct #[f0, f1, f2, f3, f4, f5])) (hi : P.underlying i = some (.int .i64)) (hb : P.underlying b = some .bool) (hs : P.underlying s = some (.slice i))
    (hone : oneCellFields P #[f0, f1, f2, f3, f4, f5] = true ∧ f0.type = i ∧ f1.type = i ∧ f2.type = i ∧ f3.type = i ∧ f4.type = s ∧ f5.type = b) (hC : P.cellsOf e = 6) (ci : P.cellsOf i = 1)
    (hval : Value.okWide P W .any base t v) (hd : DataW.Trod enc P W 0 (fun _ => true) true t v d p) : ∃ A n c l, v = .slice A n c ∧ Acts12 W A n l := by
  obtain ⟨a0, len0, cap0, rfl⟩ := okWide_slice ht hval
  obtain ⟨fuel, hf⟩ := hd
  obtain ⟨h1, e0, e1, e2, e3, e4, e5⟩ := hone
  rcases open_recs ht he h1 (by rw [hC]; rfl) hf with hcs | ⟨a, len, cap, hcs, hl, hm, hrec⟩
  · simp [Value.cells] at hcs
    obtain ⟨rfl, rfl, rfl⟩ := hcs
    exact ⟨none, 0, 0, [], rfl, rfl, by simp, by simp, by omega⟩
  · simp [Value.cells] at hcs
    obtain ⟨rfl, rfl, rfl⟩ := hcs
    have key : ∀ i : Nat, ∃ z : ActA, i < len0 → OpenedA W a i z := by
      intro q
      by_cases hq : q < len0
      · obtain ⟨vs, n, hvl, hat, hfs⟩ := hrec q hq
        obtain ⟨u0, y0, g0, t0⟩ := hfs 0 f0 rfl
        obtain ⟨u1, y1, g1, t1⟩ := hfs 1 f1 rfl
        obtain ⟨u2, y2, g2, t2⟩ := hfs 2 f2 rfl
        obtain ⟨u3, y3, g3, t3⟩ := hfs 3 f3 rfl
        obtain ⟨u4, y4, g4, t4⟩ := hfs 4 f4 rfl
        obtain ⟨u5, y5, g5, t5⟩ := hfs 5 f5 rfl
        rw [e0] at t0
        rw [e1] at t1
        rw [e2] at t2
        rw [e3] at t3
        rw [e4] at t4
        rw [e5] at t5
        obtain ⟨x0, q0, _, w0⟩ := DataW.trod_int hi t0
        obtain ⟨x1, q1, _, w1⟩ := DataW.trod_int hi t1
        obtain ⟨x2, q2, _, w2⟩ := DataW.trod_int hi t2
        obtain ⟨x3, q3, _, w3⟩ := DataW.trod_int hi t3
        obtain ⟨A4, n4, c4, l4, q4, hl4⟩ := open_intCs hs hi ci t4
        obtain ⟨x5, q5, _⟩ := DataW.trod_bool hb t5
        have hc4 : n4 ≤ c4 := by
          rcases open_slice hs t4 with ⟨h0, _⟩ | ⟨a', len', cap', _, _, _, _, hcs', _, hl', _⟩
          · rw [q4] at h0; simp at h0; omega
          · rw [q4] at hcs'; simp at hcs'; omega
        simp at q0 q1 q2 q3 q4 q5
        subst q0 q1 q2 q3 q4 q5
        refine ⟨⟨x0, x1, x2, x3, l4, x5⟩, fun _ => ⟨⟨wf_i64_bd w0, wf_i64_bd w1, wf_i64_bd w2, wf_i64_bd w3⟩, A4, n4, c4, ?_, ?_, ?_, ?_, ?_, ?_, hl4, hc4⟩⟩
        · exact hat 0 _ g0
        · rw [← add_pos12 _ _ _ (by decide)]; exact hat 1 _ g1
        · rw [← add_pos12 _ _ _ (by decide)]; exact hat 2 _ g2
        · rw [← add_pos12 _ _ _ (by decide)]; exact hat 3 _ g3
        · rw [← add_pos12 _ _ _ (by decide)]; exact hat 4 _ g4
        · rw [← add_pos12 _ _ _ (by decide)]; exact hat 5 _ g5
      · exact ⟨⟨0, 0, 0, 0, [], false⟩, fun h => absurd h hq⟩
    obtain ⟨F, hF⟩ := Classical.axiomOfChoice key
    refine ⟨some a, len0, cap0, (List.range len0).map F, rfl, by simp, by unfold maxLen at hm; omega, ?_, fun _ => ⟨a, rfl, fun k z hz => ?_⟩⟩
    · intro z hz
      obtain ⟨q, hq, rfl⟩ := List.mem_map.1 hz
      exact (hF q (by simpa using hq)).1
    · have hql : k < len0 := by have := (List.getElem?_eq_some_iff.1 hz).1; simpa using this
      simp [hql] at hz
      subst hz
      exact (hF k hql).2
end
end Go.Proofs.Ytbkimfefbdfkbaa
