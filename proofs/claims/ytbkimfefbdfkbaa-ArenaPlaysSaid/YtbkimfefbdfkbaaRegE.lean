/- Appending to an empty slice that has no room: nothing that was there turns. For regions that draw their order. -/
import Derived.Test.YtbkimfefbdfkbaaRegS
import Derived.ArgAppend
set_option maxRecDepth 100000
namespace Go.Proofs.Ytbkimfefbdfkbaa
open Go.RowKit

theorem oper_append {o : Oper} {a : Act} {w w' : World} {K : Act → World → Prop} {Q : Exit → Act → World → Prop} {t : TypeId} {s x : Operand} {v u r : Value} (ho : o.op = .call { callee := .builtin .append, args := #[s, x], argTypes := #[t, t] })
    (hs : a.eval s = v) (hx : a.eval x = u) (hrun : (Builtin.append_ #[t, t] o.type #[v, u]).run Try.prog w = .ok r w') (h : K (a.put o.dst r) w') : o.wp Try.prog a w K Q := by
  unfold Oper.wp execOp
  simp only [ho, resolve, invoke, builtin, Sem.run_bind, Sem.run_pure, Result.andThen_ok, List.map_toArray, List.map_cons, List.map_nil, hs, hx, hrun]
  exact h

theorem own_blk0 {w : World} {b g : Nat} {e : TypeId} (size : Nat) (hg : b ≤ g) (hB : Blk w g e #[]) : OwnV w b e size (.slice (some ⟨g, 0, none⟩) 0 0) 0 [] :=
  ⟨by simp, .inr ⟨g, 0, #[], rfl, hg, hB, Nat.le_refl _, Nat.zero_le _, by simp, by simp⟩⟩
theorem run_append_emptyV {t e : TypeId} {z : Value} {size bytes : Nat} (E : Elt t e z size bytes) (w : World) (ty : TypeId) (b g : Nat) (hg : b ≤ g) (hB : Blk w g e #[]) (A : Option Addr) (m c : Nat) (ys : List Value) (hy : SlV w A m size ys)
    (h1 : ∀ u ∈ ys, u.oneCell' = true) (hm : m ≤ 1000000000000) (hbase : b ≤ w.heap.size) :
    ∃ A' n' c' w', (Builtin.append_ #[t, t] ty #[.slice (some ⟨g, 0, none⟩) 0 0, .slice A m c]).run Try.prog w = .ok (.slice A' n' c') w' ∧ OwnV w' b e size (.slice A' n' c') m ys ∧ Ext w w' := by
  obtain ⟨i, hi, hz, i1, i2⟩ := info_parts E.inf
  have ho := own_blk0 size hg hB
  rcases Nat.eq_zero_or_pos m with h0 | h0
  · subst h0
    have hys : ys = [] := List.eq_nil_of_length_eq_zero (by have := hy.1; omega)
    subst hys
    cases A with
    | none => exact ⟨_, _, _, w, run_append_nil_src w b t ty e i size E.und hi _ 0 [] ho c, ho, Ext.refl _⟩
    | some ad =>
      refine ⟨_, _, _, w, ?_, ho, Ext.refl _⟩
      have := run_append_room_cells (P := Try.prog) w t ty e i E.und hi g 0 0 0 ad 0 c [] (by simp) (by simp) (by simp) (Nat.le_refl _) (by simp) (by simp)
      simpa [World.setCells] using this
  · obtain ⟨ad, rfl, hc⟩ := hy.2.2 h0
    obtain ⟨v', w', hrun, h2, h3⟩ := run_append_arg_grows (P := Try.prog) w t ty e i z size bytes E.und hi hz i1 i2 E.zs E.pos ⟨g, 0, none⟩ 0 0 [] (by simp) (by simp) ad m c ys hy.1 hc (by omega) (by unfold maxLen; omega) (by have := Nat.mul_le_mul hm E.le; rw [Nat.zero_add]; omega)
    have h2' : OwnV w' w.heap.size e size v' m ys := by
      have h4 : w'.ownsRow w.heap.size e size v' (0 + m) ([] ++ ys) := h2
      rwa [Nat.zero_add, List.nil_append] at h4
    obtain ⟨A', n', c', rfl⟩ : ∃ A' n' c', v' = .slice A' n' c' := by rcases h2'.2 with ⟨rfl, _⟩ | ⟨g', cap, cur, rfl, _⟩ <;> exact ⟨_, _, _, rfl⟩
    exact ⟨A', n', c', w', hrun, h2'.less hbase, (Ext.refl w).grown h3 (fun k e => by cases e)⟩
theorem eltI : Elt 33 3 (.int .i64 0) 1 8 := ⟨Try.underlying33, by kernel_rfl, rfl, by decide, by decide⟩
theorem IntSl.toV {w : World} {A : Option Addr} {n : Nat} {xs : List Int} (h : IntSl w A n xs) : SlV w A n 1 (xs.map (Value.int .i64)) :=
  ⟨by rw [List.length_map, h.1, Nat.mul_one], h.2.1, fun hn => by
    obtain ⟨ad, e, hc⟩ := h.2.2.2 hn
    refine ⟨ad, e, fun j u hj => ?_⟩
    rw [List.getElem?_map] at hj
    obtain ⟨x, hx, rfl⟩ := Option.map_eq_some_iff.1 hj
    exact hc j x hx⟩
theorem run_append_emptyI (w : World) (ty : TypeId) (b g : Nat) (hg : b ≤ g) (hB : Blk w g 3 #[]) (A : Option Addr) (m c : Nat) (ys : List Int) (hy : IntSl w A m ys) (hm : m ≤ 1000000000000) (hbase : b ≤ w.heap.size) :
    ∃ A' n' c' w', (Builtin.append_ #[33, 33] ty #[.slice (some ⟨g, 0, none⟩) 0 0, .slice A m c]).run Try.prog w = .ok (.slice A' n' c') w' ∧ OwnI w' b (.slice A' n' c') ys ∧ Ext w w' := by
  obtain ⟨A', n', c', w', h1, h2, h3⟩ := run_append_emptyV eltI w ty b g hg hB A m c _ hy.toV (by intro u hu; obtain ⟨y, _, rfl⟩ := List.mem_map.1 hu; rfl) hm hbase
  refine ⟨A', n', c', w', h1, ?_, h3⟩
  unfold OwnI
  rw [hy.1]
  exact h2
end Go.Proofs.Ytbkimfefbdfkbaa
