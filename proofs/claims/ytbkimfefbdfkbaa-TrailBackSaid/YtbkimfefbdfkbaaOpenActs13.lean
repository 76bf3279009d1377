/- How the acts of layer 13 are opened. -/
import Derived.Test.YtbkimfefbdfkbaaOpenRecs
import Derived.Test.YtbkimfefbdfkbaaActs13
set_option maxRecDepth 100000
namespace Go.Proofs.Ytbkimfefbdfkbaa
open Go.RowKit Go.WideShapes Go.ChangeShapes Go.ChangeAt Go.Deep

section
variable {H : Type} {enc : TypeId × Value → H} {P : Program} {W : World}
theorem flat_split {α : Type} {enc : α → List Value} {s : Nat} (hs : ∀ r, (enc r).length = s) (h0 : 0 < s) : ∀ {rows : List α} {j : Nat} {u : Value}, (rows.flatMap enc)[j]? = some u → ∃ i k r, j = i * s + k ∧ k < s ∧ rows[i]? = some r ∧ (enc r)[k]? = some u
  | [], j, u, h => by simp at h
  | x :: rows, j, u, h => by
    rw [List.flatMap_cons] at h
    by_cases hj : j < s
    · rw [List.getElem?_append_left (by rw [hs]; exact hj)] at h
      exact ⟨0, j, x, by simp, hj, rfl, h⟩
    · rw [List.getElem?_append_right (by rw [hs]; omega), hs] at h
      obtain ⟨i, k, r, e, hk, hr, hu⟩ := flat_split hs h0 h
      exact ⟨i + 1, k, r, by rw [Nat.succ_mul]; omega, hk, by simpa using hr, hu⟩

theorem open_acts13 {t e i : TypeId} {f0 f1 f2 : Field} {base : Nat} {v : Value} {d : DataW H} {p : List MemPlace} (ht : P.underlying t = some (.slice e)) (he : P.underlying e = some (.struct #[f0, f1, f2])) (hi : P.underlying i = some (.int .i64))
    (hone : oneCellFields P #[f0, f1, f2] = true ∧ f0.type = i ∧ f1.type = i ∧ f2.type = i) (hC : P.cellsOf e = 3)
    (hval : Value.okWide P W .any base t v) (hd : DataW.Trod enc P W 0 (fun _ => true) true t v d p) : ∃ A n c l, v = .slice A n c ∧ ActsSl W A n l := by
  obtain ⟨a0, len0, cap0, rfl⟩ := okWide_slice ht hval
  obtain ⟨fuel, hf⟩ := hd
  obtain ⟨h1, e0, e1, e2⟩ := hone
  rcases open_recs ht he h1 (by rw [hC]; rfl) hf with hcs | ⟨a, len, cap, hcs, hl, hm, hrec⟩
  · simp [Value.cells] at hcs
    obtain ⟨rfl, rfl, rfl⟩ := hcs
    exact ⟨none, 0, 0, [], rfl, SlV.nil W 3, rfl, by simp⟩
  · simp [Value.cells] at hcs
    obtain ⟨rfl, rfl, rfl⟩ := hcs
    have key : ∀ i : Nat, ∃ z : ActT, i < len0 → okA z ∧ ∀ (k : Nat) (u : Value), (encA z)[k]? = some u → W.cell? (a.add (i * 3 + k)) = some u := by
      intro q
      by_cases hq : q < len0
      · obtain ⟨vs, n, hvl, hat, hfs⟩ := hrec q hq
        obtain ⟨u0, y0, g0, t0⟩ := hfs 0 f0 rfl
        obtain ⟨u1, y1, g1, t1⟩ := hfs 1 f1 rfl
        obtain ⟨u2, y2, g2, t2⟩ := hfs 2 f2 rfl
        rw [e0] at t0
        rw [e1] at t1
        rw [e2] at t2
        obtain ⟨x0, q0, _, w0⟩ := DataW.trod_int hi t0
        obtain ⟨x1, q1, _, w1⟩ := DataW.trod_int hi t1
        obtain ⟨x2, q2, _, w2⟩ := DataW.trod_int hi t2
        simp at q0 q1 q2
        subst q0 q1 q2
        refine ⟨⟨x0, x1, x2⟩, fun _ => ⟨⟨wf_i64_bd w0, wf_i64_bd w1, wf_i64_bd w2⟩, fun k u hu => ?_⟩⟩
        match k, hu with
        | 0, hu => simp [encA] at hu; subst hu; exact hat 0 _ g0
        | 1, hu => simp [encA] at hu; subst hu; exact hat 1 _ g1
        | 2, hu => simp [encA] at hu; subst hu; exact hat 2 _ g2
        | k + 3, hu => simp [encA] at hu
      · exact ⟨⟨0, 0, 0⟩, fun h => absurd h hq⟩
    obtain ⟨F, hF⟩ := Classical.axiomOfChoice key
    refine ⟨some a, len0, cap0, (List.range len0).map F, rfl, ⟨?_, by unfold maxLen at hm; omega, fun _ => ⟨a, rfl, fun j u hj => ?_⟩⟩, by simp, ?_⟩
    · rw [flat_len encA_len]; simp
    · obtain ⟨q, k, r, rfl, hk, hr, hu⟩ := flat_split encA_len (by decide) hj
      have hql : q < len0 := by have := (List.getElem?_eq_some_iff.1 hr).1; simpa using this
      simp [hql] at hr
      subst hr
      exact (hF q hql).2 k u hu
    · intro z hz
      obtain ⟨q, hq, rfl⟩ := List.mem_map.1 hz
      exact (hF q (by simpa using hq)).1
end
end Go.Proofs.Ytbkimfefbdfkbaa
