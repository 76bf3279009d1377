/- Layer 8 (rup): Start, and the reference's. -/
import Derived.Test.YtdgflniahoidmaaGreatRupP
import Derived.Test.YtdgflniahoidmaaGreatAssign5
import Derived.Test.YtdgflniahoidmaaGreatTaut
import Derived.Test.YtdgflniahoidmaaGreatApp
import Derived.ArgAppend
import Derived.Test.YtdgflniahoidmaaGreatUnits1
set_option maxRecDepth 100000
namespace Go.Proofs.YtdgflniahoidmaaGreat
open Go.RowKit

/-- It hands back literals that the call owns, and an error. -/
def RetOwnE (xs : List Int) (code : Int) (w : World) (e : Ending) (w' : World) : Prop := ∃ v, e = .returned (.tuple #[v, .int .i64 code]) ∧ OwnI w' w.heap.size v xs ∧ Ext w w'

set_option maxHeartbeats 2000000 in
theorem rupStart_c (A : Option Addr) (n c : Nat) (xs : List Int) (w : World) (h : IntSl w A n xs) (hsm : n ≤ 1000000000) :
    Calls Tryz.prog 88 #[.slice A n c] w (RetOwnE (startV xs) (startE xs) w) := by
  go_enter Tryz.func88, Tryz.ntmps88
  go_wp2
  go_loopw [4, 10] (fun v i wr => ∃ k : Nat, k ≤ n ∧ i = .int .i64 k ∧ OwnI wr w.heap.size v (startL [] (xs.take k)) ∧ badV (xs.take k) = false ∧ Ext w wr) (fun _ i _ => n - (intOf i).toNat)
  case atStart => exact ⟨0, Nat.zero_le _, rfl, OwnI.nil _ _, rfl, Ext.refl _⟩
  case round =>
    obtain ⟨k, hk, rfl, ho, hbd, hx⟩ := hrel
    have hsz := hx.size_le
    have hl1 := startL_len (xs.take k) []
    have hl2 : (xs.take k).length ≤ k := List.length_take_le _ _
    have HLL : Hid ((startL [] (xs.take k)).length ≤ 1000000000) := by unfold Hid; simp at hl1; omega
    have hbs := startL_bd hbd
    have HBS := Lib.hid hbs
    have HB := Lib.hid hbd
    have HO := Lib.hid ho
    have HX := Lib.hid hx
    clear hl1 hl2 hbs hbd hx
    obtain ⟨Ao, no, co, rfl, hso⟩ := ho.sl (by have := HLL.out; omega) (fun x hx => by have := HBS.out x hx; omega)
    have HSO := Lib.hid hso
    clear ho hso
    by_cases hlt : k < n
    · obtain ⟨ad, x, rfl, hx1, hcx, hxa, hxb⟩ := (h.ext HX.out).at_ hlt
      have HT := Lib.hid (take_succ_of hx1.out)
      have HS : Hid (startL [] (xs.take (k + 1)) = if hasV (startL [] (xs.take k)) (-x) then startL [] (xs.take k) else startL [] (xs.take k) ++ [-x]) := by unfold Hid; rw [HT.out, startL_snoc]
      rcases (show (varV x = 0 ∧ negV x = 0) ∨ (varV x ≠ 0 ∧ negV x = -x ∧ negV x ≠ 0) from by unfold varV negV; (repeat (first | omega | split))) with ⟨hv, hz⟩ | ⟨hv, hz, hz2⟩
      · have HV : Hid (startV xs = [] ∧ startE xs = 10) := by unfold Hid startV startE; rw [badV_hit hx1.out hv]; exact ⟨rfl, rfl⟩
        have HZ := Lib.hid hz
        clear hv hz
        go_wp2_with (go_at_call 108; refine (neg_c _ _).mono ?_; rintro e w' ⟨rfl, rfl⟩; rw [HZ.out])
        go_ret2
        exact ⟨_, by rw [HV.out.2]; rfl, by rw [HV.out.1]; exact OwnI.nil _ _, HX.out⟩
      · obtain ⟨_, hx3, hx4⟩ := varV_pos hv
        have hnz : (-x == 0) = false := by rw [beq_eq_false_iff_ne]; omega
        have hnz2 : (x == 0) = false := by rw [beq_eq_false_iff_ne]; omega
        have hnz3 : ¬ x = 0 := by omega
        have HBN := Lib.hid (badV_take HB.out hx1.out hv)
        have HZ := Lib.hid hz
        clear hv hz hz2
        cases hh : hasV (startL [] (xs.take k)) (-x)
        · have HH := Lib.hid hh
          clear hh
          go_wp2_with (first
            | (go_at_call 108; refine (neg_c _ _).mono ?_; rintro e w' ⟨rfl, rfl⟩; rw [HZ.out])
            | (go_at_call 109; (with_reducible refine (contains_c _ _ _ _ (-x) _ HSO.out).mono ?_); rintro e w' ⟨rfl, rfl⟩; rw [HH.out])
            | (at_builtin; refine append1 _ rfl (.tmp 22) (.tmp 24) rfl w.heap.size _ _ rfl (HO.out.alloc _) _ _ _ rfl (cell_one _ _ _) (by omega) (by have := HLL.out; omega) (by simp; omega) ?_; intro v' w2 ho2 hg2 _; have HO2 := Lib.hid ho2; have HG2 := Lib.hid hg2; clear ho2 hg2))
          go_roundw
          case rel => exact ⟨k + 1, by omega, by go_num, by rw [HS.out, HH.out]; exact HO2.out, HBN.out, Ext.grown (HX.out.alloc _) HG2.out (fun j hj => (HO.out.blk j hj).1)⟩
          case measure => simp [intOf]; omega
        · have HH := Lib.hid hh
          clear hh
          go_wp2_with (first
            | (go_at_call 108; refine (neg_c _ _).mono ?_; rintro e w' ⟨rfl, rfl⟩; rw [HZ.out])
            | (go_at_call 109; (with_reducible refine (contains_c _ _ _ _ (-x) _ HSO.out).mono ?_); rintro e w' ⟨rfl, rfl⟩; rw [HH.out]))
          go_roundw
          case rel => exact ⟨k + 1, by omega, by go_num, by rw [HS.out, HH.out]; exact HO.out, HBN.out, HX.out⟩
          case measure => simp [intOf]; omega
    · have hb := HB.out
      have ho := HO.out
      rw [take_len_of h.1 hlt] at hb ho
      have HB2 := Lib.hid hb
      have HO2 := Lib.hid ho
      clear hb ho
      cases ht : tautV xs
      · have HV : Hid (startV xs = startL [] xs ∧ startE xs = 0) := by unfold Hid startV startE; rw [HB2.out, ht]; exact ⟨rfl, rfl⟩
        have HT := Lib.hid ht
        clear ht
        go_wp2_with (go_at_call 38; (with_reducible refine (taut_c _ _ _ xs _ (h.ext HX.out) hsm).mono ?_); rintro e w1 ⟨rfl, hx⟩; rw [HT.out])
        go_ret2
        exact ⟨_, by rw [HV.out.2]; rfl, by rw [HV.out.1]; exact HO2.out.ext hx, HX.out.trans hx⟩
      · have HV : Hid (startV xs = [] ∧ startE xs = 11) := by unfold Hid startV startE; rw [HB2.out, ht]; exact ⟨rfl, rfl⟩
        have HT := Lib.hid ht
        clear ht
        go_wp2_with (go_at_call 38; (with_reducible refine (taut_c _ _ _ xs _ (h.ext HX.out) hsm).mono ?_); rintro e w1 ⟨rfl, hx⟩; rw [HT.out])
        go_ret2
        exact ⟨_, by rw [HV.out.2]; rfl, by rw [HV.out.1]; exact OwnI.nil _ _, HX.out.trans hx⟩

set_option maxHeartbeats 2000000 in
theorem rRupStart_c (A : Option Addr) (n c : Nat) (xs : List Int) (w : World) (h : IntSl w A n xs) (hc : n ≤ c) (hsm : n ≤ 1000000000) :
    Calls Tryz.prog 77 #[.slice A n c] w (RetOwnE (startV xs) (startE xs) w) := by
  go_enter Tryz.func77, Tryz.ntmps77
  go_wp2
  go_loop [4] (fun i => ∃ k : Nat, k ≤ n ∧ i = .int .i64 k ∧ badV (xs.take k) = false) (fun i => n - (intOf i).toNat)
  case atStart => exact ⟨0, Nat.zero_le _, rfl, rfl⟩
  case round =>
    obtain ⟨k, hk, rfl, hbd⟩ := hrel
    have HB := Lib.hid hbd
    clear hbd
    by_cases hlt : k < n
    · obtain ⟨ad, x, rfl, hx1, hcx, hxa, hxb⟩ := h.at_ hlt
      have hvi := varV_index x
      by_cases hv : varV x = 0
      · have hi : indexV x < 0 := by omega
        have HV : Hid (startV xs = [] ∧ startE xs = 10) := by unfold Hid startV startE; rw [badV_hit hx1.out hv]; exact ⟨rfl, rfl⟩
        clear hv hvi
        go_wp2_with (go_at_call 74; refine (rIndex_c _ _).mono ?_; rintro e w' ⟨rfl, rfl⟩)
        go_ret2
        exact ⟨_, by rw [HV.out.2]; rfl, by rw [HV.out.1]; exact OwnI.nil _ _, Ext.refl _⟩
      · have hi : ¬ indexV x < 0 := by have := hvi.2 hv; omega
        have HBN := Lib.hid (badV_take HB.out hx1.out hv)
        clear hv hvi
        go_wp2_with (go_at_call 74; refine (rIndex_c _ _).mono ?_; rintro e w' ⟨rfl, rfl⟩)
        go_round
        case rel => exact ⟨k + 1, by omega, by go_num, HBN.out⟩
        case measure => simp [intOf]; omega
    · have hb := HB.out
      rw [take_len_of h.1 hlt] at hb
      have HB2 := Lib.hid hb
      clear hb
      cases ht : tautV xs
      · have HV : Hid (startV xs = startL [] xs ∧ startE xs = 0) := by unfold Hid startV startE; rw [HB2.out, ht]; exact ⟨rfl, rfl⟩
        have HT := Lib.hid ht
        clear ht
        go_wp2_with (go_at_call 30; (with_reducible refine (rTaut_c _ _ _ xs _ h).mono ?_); rintro e w' ⟨rfl, rfl⟩; rw [HT.out])
        go_loopw [5, 6] (fun v i wr => ∃ k : Nat, k ≤ n ∧ i = .int .i64 k ∧ OwnI wr w.heap.size v (startL [] (xs.take k)) ∧ Ext w wr) (fun _ i _ => n - (intOf i).toNat)
        case atStart => exact ⟨0, Nat.zero_le _, rfl, OwnI.nil _ _, Ext.refl _⟩
        case round =>
          obtain ⟨j, hj, rfl, ho, hx⟩ := hrel
          have hsz := hx.size_le
          have hl1 := startL_len (xs.take j) []
          have hl2 : (xs.take j).length ≤ j := List.length_take_le _ _
          have HLL : Hid ((startL [] (xs.take j)).length + 1 ≤ 10000000000000) := by unfold Hid; simp at hl1; omega
          have HO := Lib.hid ho
          have HX := Lib.hid hx
          clear hl1 hl2 ho hx
          by_cases hjt : j < n
          · obtain ⟨ad, x, rfl, hx1, hcx, hxa, hxb⟩ := (h.ext HX.out).at_ hjt
            have HTT := Lib.hid (take_succ_of hx1.out)
            have HS : Hid (startL [] (xs.take (j + 1)) = if hasV (xs.take j) x then startL [] (xs.take j) else startL [] (xs.take j) ++ [-x]) := by unfold Hid; rw [HTT.out, startL_snoc]; dsimp only; rw [has_start]
            have hvx := varV_pos (badV_mem HB2.out x (List.mem_of_getElem? hx1.out))
            obtain ⟨_, hx3, hx4⟩ := hvx
            have b0 : (0 : Int) ≤ (j : Int) := by omega
            have b1 : (j : Int) < (n : Int) := by omega
            have b2 : (j : Int) ≤ (c : Int) := by omega
            have q1 : ∀ m, Calls Tryz.prog 63 #[.slice (some ad) j c, .int .i64 x] (wr.drewN m) fun e w' => e = .returned (.bool (hasV (xs.take j) x)) ∧ wr.drewN m = w' := fun m => rHas_c _ _ _ (xs.take j) x _ ((((h.ext HX.out).ext ((Ext.refl _).drewN m)).take (by omega)))
            cases hh : hasV (xs.take j) x
            · rw [hh] at q1
              have HH := Lib.hid hh
              clear hh
              go_wp2
              go_quiet ((go_at_call 63; with_reducible exact quiet_left (q1 _)))
              go_wp2_with (at_builtin; refine append1 _ rfl (.tmp 36) (.tmp 42) rfl w.heap.size _ _ rfl ((HO.out.drewN _).alloc _) _ _ _ rfl (cell_one _ _ _) (by omega) HLL.out (by simp; omega) ?_; intro v' w2 ho2 hg2 _; have HO2 := Lib.hid ho2; have HG2 := Lib.hid hg2; clear ho2 hg2)
              go_roundw
              case rel => exact ⟨j + 1, by omega, by go_num, by rw [HS.out, HH.out]; exact HO2.out, Ext.grown ((HX.out.drewN _).alloc _) HG2.out (fun q hq => (HO.out.blk q hq).1)⟩
              case measure => simp [intOf]; omega
            · rw [hh] at q1
              have HH := Lib.hid hh
              clear hh
              go_wp2
              go_quiet ((go_at_call 63; with_reducible exact quiet_left (q1 _)))
              go_wp2
              go_roundw
              case rel => exact ⟨j + 1, by omega, by go_num, by rw [HS.out, HH.out]; exact HO.out.drewN _, HX.out.drewN _⟩
              case measure => simp [intOf]; omega
          · have ho := HO.out
            rw [take_len_of h.1 hjt] at ho
            have HO2 := Lib.hid ho
            clear ho
            go_wp2
            go_ret2
            exact ⟨_, by rw [HV.out.2]; rfl, by rw [HV.out.1]; exact HO2.out, HX.out⟩
      · have HV : Hid (startV xs = [] ∧ startE xs = 11) := by unfold Hid startV startE; rw [HB2.out, ht]; exact ⟨rfl, rfl⟩
        have HT := Lib.hid ht
        clear ht
        go_wp2_with (go_at_call 30; (with_reducible refine (rTaut_c _ _ _ xs _ h).mono ?_); rintro e w' ⟨rfl, rfl⟩; rw [HT.out])
        go_ret2
        exact ⟨_, by rw [HV.out.2]; rfl, by rw [HV.out.1]; exact OwnI.nil _ _, Ext.refl _⟩
end Go.Proofs.YtdgflniahoidmaaGreat

/- Layer 8 (rup): Step, and the reference's. -/
namespace Go.Proofs.YtdgflniahoidmaaGreat
open Go.RowKit

/-- 'append(l[:len(l):len(l)], y)': always a new block. -/
theorem run_append_new (w : World) (ty : TypeId) (A : Option Addr) (n : Nat) (xs : List Int) (h : IntSl w A n xs) (ad : Addr) (c : Nat) (y : Int) (hc : w.cell? ad = some (.int .i64 y))
    (hy : -9223372036854775808 ≤ y ∧ y ≤ 9223372036854775807) (hn : n ≤ 1000000000000) :
    ∃ v' w', (Builtin.append_ #[42, 42] ty #[.slice A n n, .slice (some ad) 1 c]).run Tryz.prog w = .ok v' w' ∧ OwnI w' w.heap.size v' (xs ++ [y]) ∧ w.grownBy w' none := by
  have hl := h.1
  have h1 : IntSl w (some ad) 1 [y] := ⟨rfl, by decide, by simpa using hy, fun _ => ⟨ad, rfl, fun j x hj => by
    cases j with
    | zero => simp at hj; subst hj; simpa [Addr.add] using hc
    | succ j => simp at hj⟩⟩
  cases A with
  | none =>
    have h0 : n = 0 := by
      rcases Nat.eq_zero_or_pos n with e | e
      · exact e
      · obtain ⟨_, e, _⟩ := h.2.2.2 e
        cases e
    subst h0
    have hx : xs = [] := List.eq_nil_of_length_eq_zero hl
    subst hx
    obtain ⟨v', w', hr, ho, hg, _⟩ := run_appendI w ty w.heap.size (.slice none 0 0) [] (OwnI.nil _ _) (some ad) 1 c [y] h1 (by simp) (Nat.le_refl _)
    exact ⟨v', w', hr, ho, hg⟩
  | some b =>
    obtain ⟨i, hi, hz, hs1, hs2⟩ := info_parts infoI
    obtain ⟨v', w', hr, ho, hg⟩ := run_append_arg_grows (P := Tryz.prog) (w := w) 42 ty 3 i (.int .i64 0) 1 8 Tryz.underlying42 hi hz hs1 hs2 rfl (by decide) b n n (xs.map (Value.int .i64)) (by simp [hl])
      (fun j u hj => by
        rw [List.getElem?_map] at hj
        obtain ⟨x, hx, rfl⟩ := Option.map_eq_some_iff.1 hj
        have hp : 0 < n := by have := (List.getElem?_eq_some_iff.1 hx).1; omega
        obtain ⟨_, e, hcc⟩ := h.2.2.2 hp
        cases e
        exact hcc j x hx)
      ad 1 c [.int .i64 y] rfl
      (fun j u hj => by
        cases j with
        | zero => simp at hj; subst hj; simpa [Addr.add] using hc
        | succ j => simp at hj)
      (by omega) (by unfold maxLen; omega) (by omega)
    refine ⟨v', w', hr, ?_, hg⟩
    unfold OwnI
    rw [List.length_append, List.map_append, hl]
    exact ho

theorem appendNew (w : World) {ops : Array Oper} {rest : List Oper} {o : Oper} {a : Act} {Q : Exit → Act → World → Prop} (hgd : o.guard = none) (s x : Operand)
    (ho : o.op = .call { callee := .builtin .append, args := #[s, x], argTypes := #[42, 42] })
    (A : Option Addr) (n : Nat) (xs : List Int) (hs : a.eval s = .slice A n n) (h : IntSl w A n xs) (ad : Addr) (c : Nat) (y : Int) (hx : a.eval x = .slice (some ad) 1 c) (hc : w.cell? ad = some (.int .i64 y))
    (hy : -9223372036854775808 ≤ y ∧ y ≤ 9223372036854775807) (hn : n ≤ 1000000000000)
    (hk : ∀ v' w', OwnI w' w.heap.size v' (xs ++ [y]) → w.grownBy w' none → wpList Tryz.prog ops Q rest (a.put o.dst v') w') : wpList Tryz.prog ops Q (o :: rest) a w := by
  refine wpList_plain hgd fun K hK => ?_
  obtain ⟨v', w', hrun, h2, h3⟩ := run_append_new w o.type A n xs h ad c y hc hy hn
  unfold Oper.wp execOp
  simp only [ho, resolve, invoke, builtin, Sem.run_bind, Sem.run_pure, Result.andThen_ok, List.map_toArray, List.map_cons, List.map_nil, hs, hx, hrun]
  exact hK _ _ (hk v' w' h2 h3)

/-- It hands back literals that the call owns, whether they contradict, and an error. -/
def RetStepE (xs : List Int) (b : Bool) (code : Int) (w : World) (e : Ending) (w' : World) : Prop := ∃ v, e = .returned (.tuple #[v, .bool b, .int .i64 code]) ∧ OwnI w' w.heap.size v xs ∧ Ext w w'
/-- It hands back literals, whether they contradict, and an error. -/
def RetStepR (xs : List Int) (b : Bool) (code : Int) (w : World) (e : Ending) (w' : World) : Prop := ∃ A n c, e = .returned (.tuple #[.slice A n c, .bool b, .int .i64 code]) ∧ IntSl w' A n xs ∧ Ext w w'

theorem unitU_bd {l c : List Int} (_hc : ∀ x ∈ c, -9223372036854775808 ≤ x ∧ x ≤ 9223372036854775807) : -9223372036854775808 ≤ unitU l c ∧ unitU l c ≤ 9223372036854775807 := by
  cases hb : unitB l c with
  | true =>
    unfold unitU
    rw [if_pos hb]
    unfold unitB at hb
    simp only [Bool.and_eq_true, decide_eq_true_eq] at hb
    have := (varV_pos (unit_facts hb.2).1).2
    omega
  | false => unfold unitU; rw [hb]; simp

set_option maxHeartbeats 2000000 in
theorem rupStep_c (A : Option Addr) (n c : Nat) (l : List Int) (A' : Option Addr) (n' c' : Nat) (cl : List Int) (w : World) (h : IntSl w A n l) (hnc : n ≤ c) (h' : IntSl w A' n' cl) (hsm : n ≤ 1000000000) :
    Calls Tryz.prog 110 #[.slice A n c, .slice A' n' c'] w (RetStepE (stepV l cl).1 (stepV l cl).2.1 (stepV l cl).2.2 w) := by
  have hbd := clauseV_bd l cl
  have hub := unitU_bd (l := l) h'.2.2.1
  have hn := h.len
  have hll := h.1
  cases hf : failP l cl
  · have hcv : (decide (clauseV l cl < 0)) = false := by
      rw [decide_eq_false_iff_not]
      intro hlt
      have : clauseV l cl = -1 := by omega
      rw [failP, this] at hf
      cases hf
    cases hu : unitB l cl
    · have HS : Hid (stepV l cl = ([], false, 22)) := by unfold Hid stepV; rw [hf, hu]; rfl
      have HC := Lib.hid hcv
      have HU := Lib.hid hu
      clear hcv hu hf
      go_enter Tryz.func110, Tryz.ntmps110
      go_wp2_with (first
        | (go_at_call 122; refine (clause_c _ _ _ l _ _ _ cl _ h h' (by omega)).mono ?_; rintro e w1 ⟨rfl, hx1⟩; have HX1 := Lib.hid hx1; have hcv := HC.out; clear hx1)
        | (go_at_call 123; refine (unit_c _ _ _ l _ _ _ cl _ (h.ext HX1.out) (h'.ext HX1.out) (by omega)).mono ?_; rintro e w2 ⟨rfl, hx2⟩; rw [HU.out]; have HX2 : Hid (Ext w w2) := HX1.out.trans hx2; clear hx2))
      go_ret3
      exact ⟨_, by rw [HS.out]; rfl, by rw [HS.out]; exact OwnI.nil _ _, HX2.out⟩
    · have HS : Hid (stepV l cl = (l ++ [unitU l cl], false, 0)) := by unfold Hid stepV; rw [hf, hu]; rfl
      have HC := Lib.hid hcv
      have HU := Lib.hid hu
      clear hcv hu hf
      go_enter Tryz.func110, Tryz.ntmps110
      go_wp2_with (first
        | (go_at_call 122; refine (clause_c _ _ _ l _ _ _ cl _ h h' (by omega)).mono ?_; rintro e w1 ⟨rfl, hx1⟩; have HX1 := Lib.hid hx1; have hcv := HC.out; clear hx1)
        | (go_at_call 123; refine (unit_c _ _ _ l _ _ _ cl _ (h.ext HX1.out) (h'.ext HX1.out) (by omega)).mono ?_; rintro e w2 ⟨rfl, hx2⟩; rw [HU.out]; have HX2 : Hid (Ext w w2) := HX1.out.trans hx2; clear hx2)
        | (at_builtin; refine appendNew _ rfl (.tmp 28) (.tmp 30) rfl A n l rfl ((h.ext HX2.out).ext ((Ext.refl _).alloc _)) _ _ _ rfl (cell_one _ _ _) hub (by omega) ?_; intro v' w3 ho3 hg3; have HO3 := Lib.hid ho3; have HX3 : Hid (Ext w w3) := Ext.grown (HX2.out.alloc _) hg3 (fun j hj => by cases hj); clear ho3 hg3))
      go_ret3
      exact ⟨_, by rw [HS.out]; rfl, by rw [HS.out]; exact HO3.out.less (by have := HX2.out.size_le; simp; omega), HX3.out⟩
  · have HS : Hid (stepV l cl = (l, true, 0)) := by unfold Hid stepV; rw [hf]; rfl
    have hcv : clauseV l cl = -1 := by simpa [failP] using hf
    have HC := Lib.hid hcv
    clear hcv hf
    go_enter Tryz.func110, Tryz.ntmps110
    go_wp2_with (first
      | (go_at_call 122; refine (clause_c _ _ _ l _ _ _ cl _ h h' (by omega)).mono ?_; rintro e w1 ⟨rfl, hx1⟩; rw [HC.out]; have HX1 := Lib.hid hx1; clear hx1)
      | (go_at_call 33; refine (clone_c _ _ _ l _ (h.ext HX1.out) (by omega)).mono ?_; rintro e w2 ⟨v, rfl, hv, hx2⟩; have HV := Lib.hid hv; have HX2 : Hid (Ext w w2) := HX1.out.trans hx2; clear hv hx2))
    go_ret3
    exact ⟨_, by rw [HS.out]; rfl, by rw [HS.out]; exact HV.out.less HX1.out.size_le, HX2.out⟩

set_option maxHeartbeats 2000000 in
theorem rRupStep_c (A : Option Addr) (n c : Nat) (l : List Int) (A' : Option Addr) (n' c' : Nat) (cl : List Int) (w : World) (h : IntSl w A n l) (h' : IntSl w A' n' cl) (hsm : n ≤ 1000000000) :
    Calls Tryz.prog 95 #[.slice A n c, .slice A' n' c'] w (RetStepR (stepV l cl).1 (stepV l cl).2.1 (stepV l cl).2.2 w) := by
  have hub := unitU_bd (l := l) h'.2.2.1
  have hn := h.len
  have hll := h.1
  have hlb := h.2.2.1
  cases hf : failP l cl
  · have hcv : (clauseV l cl == -1) = false := hf
    cases hu : unitB l cl
    · have HS : Hid (stepV l cl = ([], false, 22)) := by unfold Hid stepV; rw [hf, hu]; rfl
      have HC := Lib.hid hcv
      have HU := Lib.hid hu
      clear hcv hu hf
      go_enter Tryz.func95, Tryz.ntmps95
      go_wp2_with (first
        | (go_at_call 114; refine (rClause_c _ _ _ l _ _ _ cl _ h h').mono ?_; rintro e w1 ⟨rfl, rfl⟩; have hcv := HC.out)
        | (go_at_call 115; refine (rUnit_c _ _ _ l _ _ _ cl _ h h').mono ?_; rintro e w2 ⟨rfl, hx2⟩; rw [HU.out]; have HX2 := Lib.hid hx2; clear hx2))
      go_ret3
      exact ⟨none, 0, 0, by rw [HS.out]; rfl, by rw [HS.out]; exact IntSl.nil _, HX2.out⟩
    · have HS : Hid (stepV l cl = (l ++ [unitU l cl], false, 0)) := by unfold Hid stepV; rw [hf, hu]; rfl
      have HC := Lib.hid hcv
      have HU := Lib.hid hu
      clear hcv hu hf
      go_enter Tryz.func95, Tryz.ntmps95
      go_wp2_with (first
        | (go_at_call 114; refine (rClause_c _ _ _ l _ _ _ cl _ h h').mono ?_; rintro e w1 ⟨rfl, rfl⟩; have hcv := HC.out)
        | (go_at_call 115; refine (rUnit_c _ _ _ l _ _ _ cl _ h h').mono ?_; rintro e w2 ⟨rfl, hx2⟩; rw [HU.out]; have HX2 := Lib.hid hx2; clear hx2)
        | (at_builtin; refine appendS _ rfl (.tmp 22) (.tmp 23) rfl w2.heap.size _ [] rfl (own_empty w2) A n c l rfl ((h.ext HX2.out).ext ((Ext.refl _).alloc _)) (by simp; omega) (by simp) ?_; intro v3 w3 ho3 hg3 hloc; clear hloc; have HO3 : Hid (OwnI w3 w2.heap.size v3 l) := (show OwnI w3 w2.heap.size v3 ([] ++ l) from ho3); have HX3 : Hid (Ext w2 w3) := Ext.grown ((Ext.refl _).alloc _) hg3 (fun j hj => by have := (own_empty w2).blk j hj; omega); clear ho3 hg3)
        | (at_builtin; refine append1 _ rfl (.tmp 24) (.tmp 26) rfl w2.heap.size _ _ rfl (HO3.out.alloc _) _ _ _ rfl (cell_one _ _ _) hub (by omega) (by have := HX3.out.size_le; simp; omega) ?_; intro v4 w4 ho4 hg4 hloc; clear hloc; have HO4 := Lib.hid ho4; have HX4 : Hid (Ext w2 w4) := Ext.grown (HX3.out.alloc _) hg4 (fun j hj => (HO3.out.blk j hj).1); clear ho4 hg4))
      obtain ⟨A4, n4, c4, rfl, hs4⟩ := HO4.out.sl (by simp; omega) (by
        intro x hx
        rcases List.mem_append.1 hx with hx | hx
        · exact hlb x hx
        · rw [List.mem_singleton.1 hx]; exact hub)
      have HS4 := Lib.hid hs4
      clear hs4
      go_ret3
      exact ⟨A4, n4, c4, by rw [HS.out]; rfl, by rw [HS.out]; exact HS4.out, HX2.out.trans HX4.out⟩
  · have HS : Hid (stepV l cl = (l, true, 0)) := by unfold Hid stepV; rw [hf]; rfl
    have hcv : clauseV l cl = -1 := by simpa [failP] using hf
    have HC := Lib.hid hcv
    clear hcv hf
    go_enter Tryz.func95, Tryz.ntmps95
    go_wp2_with (go_at_call 114; refine (rClause_c _ _ _ l _ _ _ cl _ h h').mono ?_; rintro e w1 ⟨rfl, rfl⟩; rw [HC.out])
    go_ret3
    exact ⟨A, n, c, by rw [HS.out]; rfl, by rw [HS.out]; exact h, Ext.refl _⟩
end Go.Proofs.YtdgflniahoidmaaGreat

/- Layer 8 (rup): Chain and Show, and the reference's. -/
namespace Go.Proofs.YtdgflniahoidmaaGreat
open Go.RowKit

theorem stepV_cases (l h : List Int) : stepV l h = (l, true, 0) ∨ stepV l h = (l ++ [unitU l h], false, 0) ∨ stepV l h = ([], false, 22) := by
  unfold stepV
  cases failP l h
  · cases unitB l h
    · exact Or.inr (Or.inr rfl)
    · exact Or.inr (Or.inl rfl)
  · exact Or.inl rfl
theorem chainV_hit {l h : List Int} {hs : List (List Int)} {i : Nat} (hh : stepV l h = (l, true, 0)) : chainV l (h :: hs) i = (l, (i : Int) + 1, 0) := by
  rw [chainV, hh]; rfl
theorem chainV_err {l h : List Int} {hs : List (List Int)} {i : Nat} (hh : stepV l h = ([], false, 22)) : chainV l (h :: hs) i = ([], (i : Int), 22) := by
  rw [chainV, hh]; rfl
theorem chainV_on {l h : List Int} {hs : List (List Int)} {i : Nat} (hh : stepV l h = (l ++ [unitU l h], false, 0)) : chainV l (h :: hs) i = chainV (l ++ [unitU l h]) hs (i + 1) := by
  rw [chainV, hh]; rfl
theorem drop_cons {α : Type} {L : List α} {k : Nat} {x : α} (h : L[k]? = some x) : L.drop k = x :: L.drop (k + 1) := by
  obtain ⟨hk, e⟩ := List.getElem?_eq_some_iff.1 h
  rw [List.drop_eq_getElem_cons hk, e]

/-- What Chain hands back. -/
def RetChain (r : List Int × Int × Int) (w : World) (e : Ending) (w' : World) : Prop := ∃ A n c, e = .returned (.tuple #[.slice A n c, .int .i64 r.2.1, .int .i64 r.2.2]) ∧ IntSl w' A n r.1 ∧ Ext w w'

set_option maxHeartbeats 2000000 in
theorem rupChain_c (A : Option Addr) (n c : Nat) (l : List Int) (A' : Option Addr) (n' c' : Nat) (L : List (List Int)) (w : World) (h : IntSl w A n l) (h' : RowsSl w A' n' L) (hsm : n ≤ 100000000) (hsm' : n' ≤ 100000000) :
    Calls Tryz.prog 89 #[.slice A n c, .slice A' n' c'] w (RetChain (chainV l L 0) w) := by
  have HLL := Lib.hid h.1
  have HBL := Lib.hid h.2.2.1
  have hn := h'.len
  go_enter Tryz.func89, Tryz.ntmps89
  go_wp2_with fail
  refine (clone_c _ _ _ l _ h (by omega)).mono ?_
  rintro e w1 ⟨v, rfl, hv, hx1⟩
  have HV := Lib.hid hv
  have HX1 := Lib.hid hx1
  clear hv hx1
  go_wp2_with fail
  go_loopw [4, 16] (fun o i wr => ∃ (k : Nat) (lc : List Int), k ≤ n' ∧ i = .int .i64 k ∧ chainV l L 0 = chainV lc (L.drop k) k ∧ lc.length ≤ n + k ∧ (∀ x ∈ lc, -9223372036854775808 ≤ x ∧ x ≤ 9223372036854775807) ∧ OwnI wr w.heap.size o lc ∧ Ext w wr) (fun _ i _ => n' - (intOf i).toNat)
  case atStart => exact ⟨0, l, Nat.zero_le _, rfl, rfl, by have := HLL.out; omega, HBL.out, HV.out, HX1.out⟩
  case round =>
    obtain ⟨k, lc, hk, rfl, hch, hlc, hbd, ho, hx⟩ := hrel
    obtain ⟨Ao, no, co, rfl, hso, hnc⟩ := ho.slc (by omega) hbd
    have HNO := Lib.hid hso.1
    have hno : no ≤ 1000000000 := by have := hso.1; omega
    have HC := Lib.hid hch
    have HLC := Lib.hid hlc
    have HB := Lib.hid hbd
    have HO := Lib.hid ho
    have HSO := Lib.hid hso
    have HX := Lib.hid hx
    clear hch hlc hbd ho hso hx
    by_cases hlt : k < n'
    · obtain ⟨ad, xs, A1, n1, c1, rfl, hy, hcx, hrow⟩ := (h'.ext HX.out).at_ hlt
      have HD := Lib.hid (drop_cons hy.out)
      have HU := Lib.hid (unitU_bd (l := lc) hrow.2.2.1)
      rcases stepV_cases lc xs with hs | hs | hs
      · have HR : Hid (chainV l L 0 = (lc, (k : Int) + 1, 0)) := by unfold Hid; rw [HC.out, HD.out, chainV_hit hs]
        have HS := Lib.hid hs
        clear hs
        go_wp2_with fail
        refine (rupStep_c _ _ _ lc _ _ _ xs _ HSO.out hnc hrow hno).mono ?_
        rintro e w2 ⟨v2, rfl, ho2, hx2⟩
        simp only [HS.out] at ho2 ⊢
        obtain ⟨A2, n2, c2, rfl, hs2⟩ := ho2.sl (by have := HLC.out; omega) HB.out
        have HS2 := Lib.hid hs2
        have HX2 := Lib.hid hx2
        clear ho2 hs2 hx2
        go_wp2_with fail
        go_ret3
        exact ⟨A2, n2, c2, by rw [HR.out]; rfl, by rw [HR.out]; exact HS2.out, HX.out.trans HX2.out⟩
      · have HR : Hid (chainV l L 0 = chainV (lc ++ [unitU lc xs]) (L.drop (k + 1)) (k + 1)) := by unfold Hid; rw [HC.out, HD.out, chainV_on hs]
        have HS := Lib.hid hs
        clear hs
        go_wp2_with fail
        refine (rupStep_c _ _ _ lc _ _ _ xs _ HSO.out hnc hrow hno).mono ?_
        rintro e w2 ⟨v2, rfl, ho2, hx2⟩
        simp only [HS.out] at ho2 ⊢
        have HO2 := Lib.hid ho2
        have HX2 := Lib.hid hx2
        clear ho2 hx2
        go_wp2_with fail
        go_roundw
        case rel => exact ⟨k + 1, lc ++ [unitU lc xs], by omega, by go_num, HR.out, by have := HLC.out; simp; omega, fun x hx => by
          rcases List.mem_append.1 hx with hx | hx
          · exact HB.out x hx
          · rw [List.mem_singleton.1 hx]; exact HU.out, HO2.out.less HX.out.size_le, HX.out.trans HX2.out⟩
        case measure => simp [intOf]; omega
      · have HR : Hid (chainV l L 0 = ([], (k : Int), 22)) := by unfold Hid; rw [HC.out, HD.out, chainV_err hs]
        have HS := Lib.hid hs
        clear hs
        go_wp2_with fail
        refine (rupStep_c _ _ _ lc _ _ _ xs _ HSO.out hnc hrow hno).mono ?_
        rintro e w2 ⟨v2, rfl, ho2, hx2⟩
        simp only [HS.out] at ho2 ⊢
        have HX2 := Lib.hid hx2
        clear hx2 ho2
        go_wp2_with fail
        go_ret3
        exact ⟨none, 0, 0, by rw [HR.out]; rfl, by rw [HR.out]; exact IntSl.nil _, HX.out.trans HX2.out⟩
    · have hkn : k = n' := by omega
      have HR : Hid (chainV l L 0 = (lc, (n' : Int), 23)) := by unfold Hid; rw [HC.out, List.drop_of_length_le (by have := h'.1; omega), hkn]; rfl
      clear hkn
      go_wp2_with fail
      go_ret3
      exact ⟨_, _, _, by rw [HR.out]; rfl, by rw [HR.out]; exact HSO.out, HX.out⟩

set_option maxHeartbeats 2000000 in
theorem rRupChain_c (A : Option Addr) (n c : Nat) (l : List Int) (A' : Option Addr) (n' c' : Nat) (L : List (List Int)) (w : World) (h : IntSl w A n l) (h' : RowsSl w A' n' L) (hsm : n ≤ 100000000) (hsm' : n' ≤ 100000000) :
    Calls Tryz.prog 78 #[.slice A n c, .slice A' n' c'] w (RetChain (chainV l L 0) w) := by
  have HLL := Lib.hid h.1
  have hn := h'.len
  go_enter Tryz.func78, Tryz.ntmps78
  go_wp2_with fail
  go_loopw [0, 7] (fun o i wr => ∃ (k : Nat) (lc : List Int) (Ao : Option Addr) (no co : Nat), k ≤ n' ∧ i = .int .i64 k ∧ o = .slice Ao no co ∧ chainV l L 0 = chainV lc (L.drop k) k ∧ lc.length ≤ n + k ∧ IntSl wr Ao no lc ∧ Ext w wr) (fun _ i _ => n' - (intOf i).toNat)
  case atStart => exact ⟨0, l, A, n, c, Nat.zero_le _, rfl, rfl, rfl, by have := HLL.out; omega, h, Ext.refl _⟩
  case round =>
    obtain ⟨k, lc, Ao, no, co, hk, rfl, rfl, hch, hlc, hso, hx⟩ := hrel
    have hno : no ≤ 1000000000 := by have := hso.1; omega
    have HNO := Lib.hid hso.1
    have HC := Lib.hid hch
    have HLC := Lib.hid hlc
    have HSO := Lib.hid hso
    have HX := Lib.hid hx
    clear hch hlc hso hx
    by_cases hlt : k < n'
    · obtain ⟨ad, xs, A1, n1, c1, rfl, hy, hcx, hrow⟩ := (h'.ext HX.out).at_ hlt
      have HD := Lib.hid (drop_cons hy.out)
      rcases stepV_cases lc xs with hs | hs | hs
      · have HR : Hid (chainV l L 0 = (lc, (k : Int) + 1, 0)) := by unfold Hid; rw [HC.out, HD.out, chainV_hit hs]
        have HS := Lib.hid hs
        clear hs
        go_wp2_with fail
        refine (rRupStep_c _ _ _ lc _ _ _ xs _ HSO.out hrow hno).mono ?_
        rintro e w2 ⟨A2, n2, c2, rfl, hs2, hx2⟩
        simp only [HS.out] at hs2 ⊢
        have HS2 := Lib.hid hs2
        have HX2 := Lib.hid hx2
        clear hs2 hx2
        go_wp2_with fail
        go_ret3
        exact ⟨A2, n2, c2, by rw [HR.out]; rfl, by rw [HR.out]; exact HS2.out, HX.out.trans HX2.out⟩
      · have HR : Hid (chainV l L 0 = chainV (lc ++ [unitU lc xs]) (L.drop (k + 1)) (k + 1)) := by unfold Hid; rw [HC.out, HD.out, chainV_on hs]
        have HS := Lib.hid hs
        clear hs
        go_wp2_with fail
        refine (rRupStep_c _ _ _ lc _ _ _ xs _ HSO.out hrow hno).mono ?_
        rintro e w2 ⟨A2, n2, c2, rfl, hs2, hx2⟩
        simp only [HS.out] at hs2 ⊢
        have HS2 := Lib.hid hs2
        have HX2 := Lib.hid hx2
        clear hs2 hx2
        go_wp2_with fail
        go_roundw
        case rel => exact ⟨k + 1, lc ++ [unitU lc xs], A2, n2, c2, by omega, by go_num, rfl, HR.out, by have := HLC.out; simp; omega, HS2.out, HX.out.trans HX2.out⟩
        case measure => simp [intOf]; omega
      · have HR : Hid (chainV l L 0 = ([], (k : Int), 22)) := by unfold Hid; rw [HC.out, HD.out, chainV_err hs]
        have HS := Lib.hid hs
        clear hs
        go_wp2_with fail
        refine (rRupStep_c _ _ _ lc _ _ _ xs _ HSO.out hrow hno).mono ?_
        rintro e w2 ⟨A2, n2, c2, rfl, hs2, hx2⟩
        simp only [HS.out] at hs2 ⊢
        have HX2 := Lib.hid hx2
        clear hx2 hs2
        go_wp2_with fail
        go_ret3
        exact ⟨none, 0, 0, by rw [HR.out]; rfl, by rw [HR.out]; exact IntSl.nil _, HX.out.trans HX2.out⟩
    · have hkn : k = n' := by omega
      have HR : Hid (chainV l L 0 = (lc, (n' : Int), 23)) := by unfold Hid; rw [HC.out, List.drop_of_length_le (by have := h'.1; omega), hkn]; rfl
      clear hkn
      go_wp2_with fail
      go_ret3
      exact ⟨_, _, _, by rw [HR.out]; rfl, by rw [HR.out]; exact HSO.out, HX.out⟩

theorem startV_len (c : List Int) : (startV c).length ≤ c.length := by
  unfold startV
  split
  · simp
  · split
    · simp
    · have := startL_len c []; simpa using this
theorem startV_bd (c : List Int) : ∀ x ∈ startV c, -100000 ≤ x ∧ x ≤ 100000 := by
  intro x hx
  unfold startV at hx
  cases hb : badV c with
  | true => rw [hb] at hx; simp at hx
  | false =>
    rw [hb] at hx
    cases ht : tautV c with
    | true => rw [ht] at hx; simp at hx
    | false => rw [ht] at hx; exact startL_bd hb x (by simpa using hx)

theorem rupShow_c (A : Option Addr) (n c : Nat) (xs : List Int) (A' : Option Addr) (n' c' : Nat) (L : List (List Int)) (w : World) (h : IntSl w A n xs) (h' : RowsSl w A' n' L) (hsm : n ≤ 100000000) (hsm' : n' ≤ 100000000) :
    Calls Tryz.prog 70 #[.slice A n c, .slice A' n' c'] w fun e w' => e = .returned (.tuple #[.int .i64 (showU xs L), .int .i64 (showE xs L)]) ∧ Ext w w' := by
  have hlen := startV_len xs
  rw [h.1] at hlen
  have HB := Lib.hid (startV_bd xs)
  cases he : decide (startE xs ≠ 0)
  · have he' : startE xs = 0 := by simpa using he
    have HE := Lib.hid he'
    have HR : Hid (showU xs L = (chainV (startV xs) L 0).2.1 ∧ showE xs L = (chainV (startV xs) L 0).2.2) := by
      unfold Hid showU showE; rw [if_neg (fun h => h he'), if_neg (fun h => h he')]; exact ⟨rfl, rfl⟩
    clear he he'
    go_enter Tryz.func70, Tryz.ntmps70
    go_wp2_with fail
    refine (rupStart_c _ _ _ xs _ h (by omega)).mono ?_
    rintro e w1 ⟨v, rfl, hv, hx1⟩
    rw [HE.out]
    obtain ⟨Av, nv, cv, rfl, hsv⟩ := hv.sl (by omega) (fun x hx => by have := HB.out x hx; omega)
    have hnv : nv ≤ 100000000 := by have := hsv.1; omega
    have HSV := Lib.hid hsv
    have HX1 := Lib.hid hx1
    clear hv hsv hx1
    go_wp2_with fail
    refine (rupChain_c _ _ _ _ _ _ _ L _ HSV.out (h'.ext HX1.out) hnv hsm').mono ?_
    rintro e w2 ⟨A2, n2, c2, rfl, _, hx2⟩
    have HX2 := Lib.hid hx2
    clear hx2
    go_wp2_with fail
    go_ret2
    exact ⟨by rw [HR.out.1, HR.out.2]; rfl, HX1.out.trans HX2.out⟩
  · have he' : startE xs ≠ 0 := by simpa using he
    have HR : Hid (showU xs L = 0 ∧ showE xs L = startE xs) := by unfold Hid showU showE; rw [if_pos he', if_pos he']; exact ⟨rfl, rfl⟩
    have hb : (startE xs != 0) = true := by simpa using he'
    clear he he'
    go_enter Tryz.func70, Tryz.ntmps70
    go_wp2_with fail
    refine (rupStart_c _ _ _ xs _ h (by omega)).mono ?_
    rintro e w1 ⟨v, rfl, _, hx1⟩
    have HX1 := Lib.hid hx1
    clear hx1
    go_wp2_with fail
    go_ret2
    exact ⟨by rw [HR.out.1, HR.out.2]; rfl, HX1.out⟩

theorem rRupShow_c (A : Option Addr) (n c : Nat) (xs : List Int) (A' : Option Addr) (n' c' : Nat) (L : List (List Int)) (w : World) (h : IntSl w A n xs) (hnc : n ≤ c) (h' : RowsSl w A' n' L) (hsm : n ≤ 100000000) (hsm' : n' ≤ 100000000) :
    Calls Tryz.prog 52 #[.slice A n c, .slice A' n' c'] w fun e w' => e = .returned (.tuple #[.int .i64 (showU xs L), .int .i64 (showE xs L)]) ∧ Ext w w' := by
  have hlen := startV_len xs
  rw [h.1] at hlen
  have HB := Lib.hid (startV_bd xs)
  cases he : decide (startE xs ≠ 0)
  · have he' : startE xs = 0 := by simpa using he
    have HE := Lib.hid he'
    have HR : Hid (showU xs L = (chainV (startV xs) L 0).2.1 ∧ showE xs L = (chainV (startV xs) L 0).2.2) := by
      unfold Hid showU showE; rw [if_neg (fun h => h he'), if_neg (fun h => h he')]; exact ⟨rfl, rfl⟩
    clear he he'
    go_enter Tryz.func52, Tryz.ntmps52
    go_wp2_with fail
    refine (rRupStart_c _ _ _ xs _ h hnc (by omega)).mono ?_
    rintro e w1 ⟨v, rfl, hv, hx1⟩
    rw [HE.out]
    obtain ⟨Av, nv, cv, rfl, hsv⟩ := hv.sl (by omega) (fun x hx => by have := HB.out x hx; omega)
    have hnv : nv ≤ 100000000 := by have := hsv.1; omega
    have HSV := Lib.hid hsv
    have HX1 := Lib.hid hx1
    clear hv hsv hx1
    go_wp2_with fail
    refine (rRupChain_c _ _ _ _ _ _ _ L _ HSV.out (h'.ext HX1.out) hnv hsm').mono ?_
    rintro e w2 ⟨A2, n2, c2, rfl, _, hx2⟩
    have HX2 := Lib.hid hx2
    clear hx2
    go_wp2_with fail
    go_ret2
    exact ⟨by rw [HR.out.1, HR.out.2]; rfl, HX1.out.trans HX2.out⟩
  · have he' : startE xs ≠ 0 := by simpa using he
    have HR : Hid (showU xs L = 0 ∧ showE xs L = startE xs) := by unfold Hid showU showE; rw [if_pos he', if_pos he']; exact ⟨rfl, rfl⟩
    have hb : (startE xs != 0) = true := by simpa using he'
    clear he he'
    go_enter Tryz.func52, Tryz.ntmps52
    go_wp2_with fail
    refine (rRupStart_c _ _ _ xs _ h hnc (by omega)).mono ?_
    rintro e w1 ⟨v, rfl, _, hx1⟩
    have HX1 := Lib.hid hx1
    clear hx1
    go_wp2_with fail
    go_ret2
    exact ⟨by rw [HR.out.1, HR.out.2]; rfl, HX1.out⟩
end Go.Proofs.YtdgflniahoidmaaGreat
