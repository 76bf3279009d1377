/- How a proof's steps are opened. -/
import Derived.Test.YtdgflniahoidmaaGreatOpenRecs
import Derived.Test.YtdgflniahoidmaaGreatLr19
set_option maxRecDepth 100000
namespace Go.Proofs.YtdgflniahoidmaaGreat
open Go.RowKit Go.WideShapes Go.ChangeShapes Go.ChangeAt Go.Deep

theorem add_pos11 (a : Addr) (i j : Nat) (hj : j ≠ 0) : a.add (i + j) = ⟨(a.add i).block, (a.add i).off + j, none⟩ := by
  rw [← Addr.add_add]
  generalize a.add i = b
  unfold Addr.add
  rw [if_neg hj]
section
variable {H : Type} {enc : TypeId × Value → H} {P : Program} {W : World}
theorem open_steps {t e i s : TypeId} {f0 f1 f2 f3 : Field} {base : Nat} {v : Value} {d : DataW H} {p : List MemPlace} (ht : P.underlying t = some (.slice e)) (he : P.underlying e = some (.struct #[f0, f1, f2, f3]))
    (hk : P.underlying f0.type = some (.int .i64)) (hi : P.underlying i = some (.int .i64)) (hs : P.underlying s = some (.slice i))
    (hone : oneCellFields P #[f0, f1, f2, f3] = true ∧ f1.type = i ∧ f2.type = s ∧ f3.type = s) (hC : P.cellsOf e = 4) (ci : P.cellsOf i = 1)
    (hval : Value.okWide P W .any base t v) (hd : DataW.Trod enc P W 0 (fun _ => true) true t v d p) : ∃ A n c l, v = .slice A n c ∧ StepsL W A n l := by
  obtain ⟨a0, len0, cap0, rfl⟩ := okWide_slice ht hval
  obtain ⟨fuel, hf⟩ := hd
  obtain ⟨h1, e1, e2, e3⟩ := hone
  rcases open_recs ht he h1 (by rw [hC]; rfl) hf with hcs | ⟨a, len, cap, hcs, hl, hm, hrec⟩
  · simp [Value.cells] at hcs
    obtain ⟨rfl, rfl, rfl⟩ := hcs
    exact ⟨none, 0, 0, [], rfl, rfl, by simp, by omega⟩
  · simp [Value.cells] at hcs
    obtain ⟨rfl, rfl, rfl⟩ := hcs
    have key : ∀ i : Nat, ∃ z : Stp, i < len0 → OpenedS W a i z := by
      intro q
      by_cases hq : q < len0
      · obtain ⟨vs, n, hvl, hat, hfs⟩ := hrec q hq
        obtain ⟨u0, y0, g0, t0⟩ := hfs 0 f0 rfl
        obtain ⟨u1, y1, g1, t1⟩ := hfs 1 f1 rfl
        obtain ⟨u2, y2, g2, t2⟩ := hfs 2 f2 rfl
        obtain ⟨u3, y3, g3, t3⟩ := hfs 3 f3 rfl
        rw [e1] at t1
        rw [e2] at t2
        rw [e3] at t3
        obtain ⟨x0, q0, _, w0⟩ := DataW.trod_int hk t0
        obtain ⟨x1, q1, _, w1⟩ := DataW.trod_int hi t1
        obtain ⟨A2, n2, c2, l2, q2, hl2⟩ := open_intCs hs hi ci t2
        obtain ⟨A3, n3, c3, l3, q3, hl3⟩ := open_intCs hs hi ci t3
        simp at q0 q1 q2 q3
        subst q0 q1 q2 q3
        refine ⟨⟨x0, x1, l2, l3⟩, fun _ => ⟨A2, n2, c2, A3, n3, c3, ⟨?_, ?_, ?_, ?_⟩, hl2, hl3⟩⟩
        · exact hat 0 _ g0
        · rw [← add_pos11 _ _ _ (by decide)]; exact hat 1 _ g1
        · rw [← add_pos11 _ _ _ (by decide)]; exact hat 2 _ g2
        · rw [← add_pos11 _ _ _ (by decide)]; exact hat 3 _ g3
      · exact ⟨⟨0, 0, [], []⟩, fun h => absurd h hq⟩
    obtain ⟨F, hF⟩ := Classical.axiomOfChoice key
    refine ⟨some a, len0, cap0, (List.range len0).map F, rfl, by simp, by unfold maxLen at hm; omega, fun _ => ⟨a, rfl, fun k z hz => ?_⟩⟩
    have hql : k < len0 := by have := (List.getElem?_eq_some_iff.1 hz).1; simpa using this
    simp [hql] at hz
    subst hz
    exact hF k hql
end
end Go.Proofs.YtdgflniahoidmaaGreat
