/- Layer 7 (units): Propagate. -/
import Derived.Test.YtdhohoabcokdjaaUnits3
import Derived.Test.YtdhohoabcokdjaaProp
import Derived.Test.YtdhohoabcokdjaaClone
import Derived.Test.YtdhohoabcokdjaaFirst0
set_option maxRecDepth 100000
namespace Go.Proofs.Ytdhohoabcokdjaa
open Go.RowKit Go.Maps

/-- What Propagate hands back. -/
def RetProp (L : List (List Int)) (l : List Int) (w : World) (e : Ending) (w' : World) : Prop :=
  ∃ v u k, e = .returned (.tuple #[v, u, .int .i64 k]) ∧ OwnI w' w.heap.size v (propV L (mostN L + 1) l []).1 ∧ OwnI w' w.heap.size u (propV L (mostN L + 1) l []).2.1 ∧ k = (propV L (mostN L + 1) l []).2.2 ∧ Ext w w'

theorem prop_fail {L : List (List Int)} {l b : List Int} (h : 0 ≤ failsV l L) : propV L (mostN L + 1) l b = (l, b, failsV l L) := by
  rw [propV, if_pos h]
theorem prop_stop {L : List (List Int)} {l b : List Int} (h : ¬ 0 ≤ failsV l L) (hn : nextU l L < 0) : propV L (mostN L + 1) l b = (l, b, -1) := by
  rw [propV, if_neg h, if_pos hn]
theorem prop_step {L : List (List Int)} {l b : List Int} (h : ¬ 0 ≤ failsV l L) (hn : ¬ nextU l L < 0) : propV L (mostN L + 1) l b = propV L (mostN L + 1) (l ++ [nextS l L]) (b ++ [nextU l L]) := by
  have h1 := open_step hn
  have h2 := openN_most L l
  rw [propV, if_neg h, if_neg hn]
  exact propV_fuel L _ _ _ _ (by omega) (by omega)
theorem next_bd {l : List Int} {L : List (List Int)} (hn : ¬ nextU l L < 0) : -100000 ≤ nextS l L ∧ nextS l L ≤ 100000 := by
  obtain ⟨c, _, hu, hs⟩ := next_mem hn
  rw [hs, unitU, hu, if_pos rfl]
  unfold unitB at hu
  simp only [Bool.and_eq_true, decide_eq_true_eq] at hu
  exact (varV_pos (unit_facts hu.2).1).2


end Go.Proofs.Ytdhohoabcokdjaa
