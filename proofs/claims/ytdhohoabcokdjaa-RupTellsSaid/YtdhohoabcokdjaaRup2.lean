/- Layer 8 (rup): Step, and the reference's. -/
import Derived.Test.YtdhohoabcokdjaaRup1
import Derived.Test.YtdhohoabcokdjaaAssign8
import Derived.Test.YtdhohoabcokdjaaProp
set_option maxRecDepth 100000
namespace Go.Proofs.Ytdhohoabcokdjaa
open Go.RowKit

/-- 'append(l[:len(l):len(l)], y)': always a new block. -/
theorem run_append_new (w : World) (ty : TypeId) (A : Option Addr) (n : Nat) (xs : List Int) (h : IntSl w A n xs) (ad : Addr) (c : Nat) (y : Int) (hc : w.cell? ad = some (.int .i64 y))
    (hy : -9223372036854775808 ≤ y ∧ y ≤ 9223372036854775807) (hn : n ≤ 1000000000000) :
    ∃ v' w', (Builtin.append_ #[22, 22] ty #[.slice A n n, .slice (some ad) 1 c]).run Try.prog w = .ok v' w' ∧ OwnI w' w.heap.size v' (xs ++ [y]) ∧ w.grownBy w' none := by
  have hl := h.1
  have h1 : IntSl w (some ad) 1 [y] := ⟨rfl, by decide, by simpa using hy, fun _ => ⟨ad, rfl, fun j x hj => by
    cases j with
    | zero => simp at hj; subst hj; simpa [Addr.add] using hc
    | succ j => simp at hj⟩⟩
  cases A with
  | none =>
    have h0 : n = 0 := by
      rcases Nat.eq_zero_or_pos n with e | e
      · exact e
      · obtain ⟨_, e, _⟩ := h.2.2.2 e
        cases e
    subst h0
    have hx : xs = [] := List.eq_nil_of_length_eq_zero hl
    subst hx
    obtain ⟨v', w', hr, ho, hg, _⟩ := run_appendI w ty w.heap.size (.slice none 0 0) [] (OwnI.nil _ _) (some ad) 1 c [y] h1 (by simp) (Nat.le_refl _)
    exact ⟨v', w', hr, ho, hg⟩
  | some b =>
    obtain ⟨i, hi, hz, hs1, hs2⟩ := info_parts infoI
    obtain ⟨v', w', hr, ho, hg⟩ := run_append_arg_grows (P := Try.prog) (w := w) 22 ty 3 i (.int .i64 0) 1 8 Try.underlying22 hi hz hs1 hs2 rfl (by decide) b n n (xs.map (Value.int .i64)) (by simp [hl])
      (fun j u hj => by
        rw [List.getElem?_map] at hj
        obtain ⟨x, hx, rfl⟩ := Option.map_eq_some_iff.1 hj
        have hp : 0 < n := by have := (List.getElem?_eq_some_iff.1 hx).1; omega
        obtain ⟨_, e, hcc⟩ := h.2.2.2 hp
        cases e
        exact hcc j x hx)
      ad 1 c [.int .i64 y] rfl
      (fun j u hj => by
        cases j with
        | zero => simp at hj; subst hj; simpa [Addr.add] using hc
        | succ j => simp at hj)
      (by omega) (by unfold maxLen; omega) (by omega)
    refine ⟨v', w', hr, ?_, hg⟩
    unfold OwnI
    rw [List.length_append, List.map_append, hl]
    exact ho

theorem appendNew (w : World) {ops : Array Oper} {rest : List Oper} {o : Oper} {a : Act} {Q : Exit → Act → World → Prop} (hgd : o.guard = none) (s x : Operand)
    (ho : o.op = .call { callee := .builtin .append, args := #[s, x], argTypes := #[22, 22] })
    (A : Option Addr) (n : Nat) (xs : List Int) (hs : a.eval s = .slice A n n) (h : IntSl w A n xs) (ad : Addr) (c : Nat) (y : Int) (hx : a.eval x = .slice (some ad) 1 c) (hc : w.cell? ad = some (.int .i64 y))
    (hy : -9223372036854775808 ≤ y ∧ y ≤ 9223372036854775807) (hn : n ≤ 1000000000000)
    (hk : ∀ v' w', OwnI w' w.heap.size v' (xs ++ [y]) → w.grownBy w' none → wpList Try.prog ops Q rest (a.put o.dst v') w') : wpList Try.prog ops Q (o :: rest) a w := by
  refine wpList_plain hgd fun K hK => ?_
  obtain ⟨v', w', hrun, h2, h3⟩ := run_append_new w o.type A n xs h ad c y hc hy hn
  unfold Oper.wp execOp
  simp only [ho, resolve, invoke, builtin, Sem.run_bind, Sem.run_pure, Result.andThen_ok, List.map_toArray, List.map_cons, List.map_nil, hs, hx, hrun]
  exact hK _ _ (hk v' w' h2 h3)

/-- It hands back literals that the call owns, whether they contradict, and an error. -/
def RetStepE (xs : List Int) (b : Bool) (code : Int) (w : World) (e : Ending) (w' : World) : Prop := ∃ v, e = .returned (.tuple #[v, .bool b, .int .i64 code]) ∧ OwnI w' w.heap.size v xs ∧ Ext w w'
/-- It hands back literals, whether they contradict, and an error. -/
def RetStepR (xs : List Int) (b : Bool) (code : Int) (w : World) (e : Ending) (w' : World) : Prop := ∃ A n c, e = .returned (.tuple #[.slice A n c, .bool b, .int .i64 code]) ∧ IntSl w' A n xs ∧ Ext w w'

theorem unitU_bd {l c : List Int} (_hc : ∀ x ∈ c, -9223372036854775808 ≤ x ∧ x ≤ 9223372036854775807) : -9223372036854775808 ≤ unitU l c ∧ unitU l c ≤ 9223372036854775807 := by
  cases hb : unitB l c with
  | true =>
    unfold unitU
    rw [if_pos hb]
    unfold unitB at hb
    simp only [Bool.and_eq_true, decide_eq_true_eq] at hb
    have := (varV_pos (unit_facts hb.2).1).2
    omega
  | false => unfold unitU; rw [hb]; simp

set_option maxHeartbeats 2000000 in
theorem rupStep_c (A : Option Addr) (n c : Nat) (l : List Int) (A' : Option Addr) (n' c' : Nat) (cl : List Int) (w : World) (h : IntSl w A n l) (hnc : n ≤ c) (h' : IntSl w A' n' cl) (hsm : n ≤ 1000000000) :
    Calls Try.prog 19 #[.slice A n c, .slice A' n' c'] w (RetStepE (stepV l cl).1 (stepV l cl).2.1 (stepV l cl).2.2 w) := by
  have hbd := clauseV_bd l cl
  have hub := unitU_bd (l := l) h'.2.2.1
  have hn := h.len
  have hll := h.1
  cases hf : failP l cl
  · have hcv : (decide (clauseV l cl < 0)) = false := by
      rw [decide_eq_false_iff_not]
      intro hlt
      have : clauseV l cl = -1 := by omega
      rw [failP, this] at hf
      cases hf
    cases hu : unitB l cl
    · have HS : Hid (stepV l cl = ([], false, 22)) := by unfold Hid stepV; rw [hf, hu]; rfl
      have HC := Lib.hid hcv
      have HU := Lib.hid hu
      clear hcv hu hf
      go_enter Try.func19, Try.ntmps19
      go_wp2_with (first
        | (go_at_call 53; refine (clause_c _ _ _ l _ _ _ cl _ h h' (by omega)).mono ?_; rintro e w1 ⟨rfl, hx1⟩; have HX1 := Lib.hid hx1; have hcv := HC.out; clear hx1)
        | (go_at_call 54; refine (unit_c _ _ _ l _ _ _ cl _ (h.ext HX1.out) (h'.ext HX1.out) (by omega)).mono ?_; rintro e w2 ⟨rfl, hx2⟩; rw [HU.out]; have HX2 : Hid (Ext w w2) := HX1.out.trans hx2; clear hx2))
      go_ret3
      exact ⟨_, by rw [HS.out]; rfl, by rw [HS.out]; exact OwnI.nil _ _, HX2.out⟩
    · have HS : Hid (stepV l cl = (l ++ [unitU l cl], false, 0)) := by unfold Hid stepV; rw [hf, hu]; rfl
      have HC := Lib.hid hcv
      have HU := Lib.hid hu
      clear hcv hu hf
      go_enter Try.func19, Try.ntmps19
      go_wp2_with (first
        | (go_at_call 53; refine (clause_c _ _ _ l _ _ _ cl _ h h' (by omega)).mono ?_; rintro e w1 ⟨rfl, hx1⟩; have HX1 := Lib.hid hx1; have hcv := HC.out; clear hx1)
        | (go_at_call 54; refine (unit_c _ _ _ l _ _ _ cl _ (h.ext HX1.out) (h'.ext HX1.out) (by omega)).mono ?_; rintro e w2 ⟨rfl, hx2⟩; rw [HU.out]; have HX2 : Hid (Ext w w2) := HX1.out.trans hx2; clear hx2)
        | (at_builtin; refine appendNew _ rfl (.tmp 28) (.tmp 30) rfl A n l rfl ((h.ext HX2.out).ext ((Ext.refl _).alloc _)) _ _ _ rfl (cell_one _ _ _) hub (by omega) ?_; intro v' w3 ho3 hg3; have HO3 := Lib.hid ho3; have HX3 : Hid (Ext w w3) := Ext.grown (HX2.out.alloc _) hg3 (fun j hj => by cases hj); clear ho3 hg3))
      go_ret3
      exact ⟨_, by rw [HS.out]; rfl, by rw [HS.out]; exact HO3.out.less (by have := HX2.out.size_le; simp; omega), HX3.out⟩
  · have HS : Hid (stepV l cl = (l, true, 0)) := by unfold Hid stepV; rw [hf]; rfl
    have hcv : clauseV l cl = -1 := by simpa [failP] using hf
    have HC := Lib.hid hcv
    clear hcv hf
    go_enter Try.func19, Try.ntmps19
    go_wp2_with (first
      | (go_at_call 53; refine (clause_c _ _ _ l _ _ _ cl _ h h' (by omega)).mono ?_; rintro e w1 ⟨rfl, hx1⟩; rw [HC.out]; have HX1 := Lib.hid hx1; clear hx1)
      | (go_at_call 52; refine (clone_c _ _ _ l _ (h.ext HX1.out) (by omega)).mono ?_; rintro e w2 ⟨v, rfl, hv, hx2⟩; have HV := Lib.hid hv; have HX2 : Hid (Ext w w2) := HX1.out.trans hx2; clear hv hx2))
    go_ret3
    exact ⟨_, by rw [HS.out]; rfl, by rw [HS.out]; exact HV.out.less HX1.out.size_le, HX2.out⟩

set_option maxHeartbeats 2000000 in
theorem rRupStep_c (A : Option Addr) (n c : Nat) (l : List Int) (A' : Option Addr) (n' c' : Nat) (cl : List Int) (w : World) (h : IntSl w A n l) (h' : IntSl w A' n' cl) (hsm : n ≤ 1000000000) :
    Calls Try.prog 20 #[.slice A n c, .slice A' n' c'] w (RetStepR (stepV l cl).1 (stepV l cl).2.1 (stepV l cl).2.2 w) := by
  have hub := unitU_bd (l := l) h'.2.2.1
  have hn := h.len
  have hll := h.1
  have hlb := h.2.2.1
  cases hf : failP l cl
  · have hcv : (clauseV l cl == -1) = false := hf
    cases hu : unitB l cl
    · have HS : Hid (stepV l cl = ([], false, 22)) := by unfold Hid stepV; rw [hf, hu]; rfl
      have HC := Lib.hid hcv
      have HU := Lib.hid hu
      clear hcv hu hf
      go_enter Try.func20, Try.ntmps20
      go_wp2_with (first
        | (go_at_call 55; refine (rClause_c _ _ _ l _ _ _ cl _ h h').mono ?_; rintro e w1 ⟨rfl, rfl⟩; have hcv := HC.out)
        | (go_at_call 56; refine (rUnit_c _ _ _ l _ _ _ cl _ h h').mono ?_; rintro e w2 ⟨rfl, hx2⟩; rw [HU.out]; have HX2 := Lib.hid hx2; clear hx2))
      go_ret3
      exact ⟨none, 0, 0, by rw [HS.out]; rfl, by rw [HS.out]; exact IntSl.nil _, HX2.out⟩
    · have HS : Hid (stepV l cl = (l ++ [unitU l cl], false, 0)) := by unfold Hid stepV; rw [hf, hu]; rfl
      have HC := Lib.hid hcv
      have HU := Lib.hid hu
      clear hcv hu hf
      go_enter Try.func20, Try.ntmps20
      go_wp2_with (first
        | (go_at_call 55; refine (rClause_c _ _ _ l _ _ _ cl _ h h').mono ?_; rintro e w1 ⟨rfl, rfl⟩; have hcv := HC.out)
        | (go_at_call 56; refine (rUnit_c _ _ _ l _ _ _ cl _ h h').mono ?_; rintro e w2 ⟨rfl, hx2⟩; rw [HU.out]; have HX2 := Lib.hid hx2; clear hx2)
        | (at_builtin; refine appendS _ rfl (.tmp 22) (.tmp 23) rfl w2.heap.size _ [] rfl (own_empty w2) A n c l rfl ((h.ext HX2.out).ext ((Ext.refl _).alloc _)) (by simp; omega) (by simp) ?_; intro v3 w3 ho3 hg3 hloc; clear hloc; have HO3 : Hid (OwnI w3 w2.heap.size v3 l) := (show OwnI w3 w2.heap.size v3 ([] ++ l) from ho3); have HX3 : Hid (Ext w2 w3) := Ext.grown ((Ext.refl _).alloc _) hg3 (fun j hj => by have := (own_empty w2).blk j hj; omega); clear ho3 hg3)
        | (at_builtin; refine append1 _ rfl (.tmp 24) (.tmp 26) rfl w2.heap.size _ _ rfl (HO3.out.alloc _) _ _ _ rfl (cell_one _ _ _) hub (by omega) (by have := HX3.out.size_le; simp; omega) ?_; intro v4 w4 ho4 hg4 hloc; clear hloc; have HO4 := Lib.hid ho4; have HX4 : Hid (Ext w2 w4) := Ext.grown (HX3.out.alloc _) hg4 (fun j hj => (HO3.out.blk j hj).1); clear ho4 hg4))
      obtain ⟨A4, n4, c4, rfl, hs4⟩ := HO4.out.sl (by simp; omega) (by
        intro x hx
        rcases List.mem_append.1 hx with hx | hx
        · exact hlb x hx
        · rw [List.mem_singleton.1 hx]; exact hub)
      have HS4 := Lib.hid hs4
      clear hs4
      go_ret3
      exact ⟨A4, n4, c4, by rw [HS.out]; rfl, by rw [HS.out]; exact HS4.out, HX2.out.trans HX4.out⟩
  · have HS : Hid (stepV l cl = (l, true, 0)) := by unfold Hid stepV; rw [hf]; rfl
    have hcv : clauseV l cl = -1 := by simpa [failP] using hf
    have HC := Lib.hid hcv
    clear hcv hf
    go_enter Try.func20, Try.ntmps20
    go_wp2_with (go_at_call 55; refine (rClause_c _ _ _ l _ _ _ cl _ h h').mono ?_; rintro e w1 ⟨rfl, rfl⟩; rw [HC.out])
    go_ret3
    exact ⟨A, n, c, by rw [HS.out]; rfl, by rw [HS.out]; exact h, Ext.refl _⟩
end Go.Proofs.Ytdhohoabcokdjaa
