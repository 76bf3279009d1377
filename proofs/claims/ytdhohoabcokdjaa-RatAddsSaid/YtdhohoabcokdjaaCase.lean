/- replevinlaw09.Case: few, rows. -/
import Derived.Test.YtdhohoabcokdjaaRat3
import Derived.Test.YtdhohoabcokdjaaFew
import Derived.Test.YtdhohoabcokdjaaOwnRows
import Derived.Test.YtdhohoabcokdjaaStill
import Derived.Deep.RegionLaw
set_option maxRecDepth 100000
namespace Go.Proofs.Ytdhohoabcokdjaa
open Go.RowKit

/-- The clauses of numbers, as far as there are such. -/
def rowsQ (L : List (List Int)) (l : List Int) : List (List Int) := l.flatMap fun x => if 0 ≤ x ∧ x < (L.length : Int) then [L.getD x.toNat []] else []
theorem rowsQ_snoc (L : List (List Int)) (l : List Int) (x : Int) : rowsQ L (l ++ [x]) = rowsQ L l ++ (if 0 ≤ x ∧ x < (L.length : Int) then [L.getD x.toNat []] else []) := by
  unfold rowsQ; rw [List.flatMap_append]; simp
theorem rowsQ_len (L : List (List Int)) : ∀ l : List Int, (rowsQ L l).length ≤ l.length
  | [] => Nat.le_refl _
  | x :: l => by
    have ih := rowsQ_len L l
    have e : (if 0 ≤ x ∧ x < (L.length : Int) then [L.getD x.toNat []] else []).length ≤ 1 := by split <;> simp
    have h2 : (rowsQ L (x :: l)).length = (if 0 ≤ x ∧ x < (L.length : Int) then [L.getD x.toNat []] else []).length + (rowsQ L l).length := by unfold rowsQ; rw [List.flatMap_cons, List.length_append]
    rw [h2, List.length_cons]; omega
theorem rowsQ_mem {L : List (List Int)} {l : List Int} {d : List Int} (h : d ∈ rowsQ L l) : d ∈ L := by
  unfold rowsQ at h
  obtain ⟨x, _, hx⟩ := List.mem_flatMap.1 h
  split at hx
  · rename_i hr
    rw [List.mem_singleton.1 hx, List.getD_eq_getElem?_getD, List.getElem?_eq_getElem (by omega)]
    exact List.getElem_mem _
  · cases hx

theorem OwnR.form {w0 w : World} {base : Nat} {v : Value} {L : List (List Int)} (h : OwnR w0 w base v L) : ∃ A n c, v = .slice A n c := by
  obtain ⟨vs, hv, _⟩ := h
  exact OwnV.form (show OwnV w base 22 1 v _ _ from hv)
theorem step_appendR1 (w0 w : World) {ops : Array Oper} {o : Oper} {a : Act} {K : Act → World → Prop} {Q : Exit → Act → World → Prop} {E : Prop} (hgd : o.guard = none) (s x : Operand)
    (ho : o.op = .call { callee := .builtin .append, args := #[s, x], argTypes := #[23, 23] })
    (base : Nat) (v : Value) (L : List (List Int)) (hs : a.eval s = v) (hown : OwnR w0 w base v L) (ad : Addr) (c : Nat) (A : Option Addr) (n c' : Nat) (y : List Int) (hx : a.eval x = .slice (some ad) 1 c) (hc : w.cell? ad = some (.slice A n c'))
    (hy : IntSl w0 A n y) (hb : L.length + 1 ≤ 1000000000000) (hbase : base ≤ w.heap.size)
    (h : ∀ A1 n1 c1 w', OwnR w0 w' base (.slice A1 n1 c1) (L ++ [y]) → w.grownBy w' v.ownBlock → K (a.put o.dst (.slice A1 n1 c1)) w') :
    if Region.wanted o (yielded ops a.tmps) = true then Oper.wp Try.prog o a w K Q else E := by
  have hw : Region.wanted o (yielded ops a.tmps) = true := by simp [Region.wanted, hgd]
  rw [if_pos hw]
  obtain ⟨i, hi, hz, h1, h2⟩ := info_parts infoR
  obtain ⟨vs, hv, hl, hr⟩ := hown
  obtain ⟨v', w', hrun, g1, g2, _, g3⟩ := run_append_own_at (P := Try.prog) w base 23 o.type 22 i (.slice none 0 0) 1 24 Try.underlying23 hi hz h1 h2 rfl (by decide) v vs.length _ hv ad 1 c [.slice A n c'] (by simp) (fun j u hj => by
    cases j with
    | zero => simp at hj; subst hj; simpa [Addr.add] using hc
    | succ j => simp at hj) (by intro u hu; rw [List.mem_singleton.1 hu]; rfl) (by unfold maxLen; omega) (by omega) hbase
  obtain ⟨A1, n1, c1, rfl⟩ := OwnV.form (show OwnV w' base 22 1 v' _ _ from g1)
  unfold Oper.wp execOp
  simp only [ho, resolve, invoke, builtin, Sem.run_bind, Sem.run_pure, Result.andThen_ok, List.map_toArray, List.map_cons, List.map_nil, hs, hx, hrun]
  refine h A1 n1 c1 w' ⟨vs ++ [.slice A n c'], ?_, by simp [hl], ?_⟩ g2
  · rw [List.length_append]; exact g1
  · intro j xs hj
    by_cases hjl : j < L.length
    · rw [List.getElem?_append_left hjl] at hj
      obtain ⟨A1, n1, c1, e1, e2⟩ := hr j xs hj
      exact ⟨A1, n1, c1, by rw [List.getElem?_append_left (by omega)]; exact e1, e2⟩
    · rw [List.getElem?_append_right (by omega)] at hj
      have : j - L.length = 0 := by have := (List.getElem?_eq_some_iff.1 hj).1; simp at this; omega
      rw [this] at hj
      simp at hj
      subst hj
      exact ⟨A, n, c', by rw [List.getElem?_append_right (by omega), hl, this]; rfl, hy⟩

/-- It hands back rows in a slice that it owns; each row is an older world's. -/
def RetRowsR (L : List (List Int)) (w0 w : World) (e : Ending) (w' : World) : Prop := ∃ A n c, e = .returned (.slice A n c) ∧ RowsSl w' A n L ∧ n ≤ c ∧ (∃ b, w.heap.size ≤ b ∧ OwnR w0 w' b (.slice A n c) L) ∧ Ext w w'
set_option maxHeartbeats 4000000 in
theorem rows9_c (A : Option Addr) (n c : Nat) (L : List (List Int)) (u1 u2 u3 : Value) (A' : Option Addr) (n' c' : Nat) (l : List Int) (w0 w : World) (hX0 : Ext w0 w) (h : RowsSl w0 A n L) (h' : IntSl w A' n' l) (hsm : n' ≤ 1000000) (hf : ∃ B1 k1 d1 B2 k2 d2 B3 k3 d3, u1 = .slice B1 k1 d1 ∧ u2 = .slice B2 k2 d2 ∧ u3 = .slice B3 k3 d3) :
    Calls Try.prog 35 #[.agg #[.slice A n c, u1, u2, u3], .slice A' n' c'] w (RetRowsR (rowsQ L l) w0 w) := by
  obtain ⟨B1, k1, d1, B2, k2, d2, B3, k3, d3, rfl, rfl, rfl⟩ := hf
  have hn := h.len
  have hn' := h'.len
  have HLn := Lib.hid h.1
  have hb0 := Blk.new w 61 #[.slice A n c, .slice B1 k1 d1, .slice B2 k2 d2, .slice B3 k3 d3]
  have HB0 := Lib.hid hb0
  have HXA : Hid (Ext w (w.alloc (Obj.cells #[.slice A n c, .slice B1 k1 d1, .slice B2 k2 d2, .slice B3 k3 d3] 61))) := (Ext.refl _).alloc _
  clear hb0
  go_enter Try.func35, Try.ntmps35
  go_wp2_with fail
  generalize hw1 : w.alloc (Obj.cells #[.slice A n c, .slice B1 k1 d1, .slice B2 k2 d2, .slice B3 k3 d3] 61) = w1 at HB0 HXA ⊢
  go_loopw [5, 6] (fun v i wr => ∃ j : Nat, j ≤ n' ∧ i = .int .i64 j ∧ OwnR w0 wr w1.heap.size v (rowsQ L (l.take j)) ∧ Ext w1 wr) (fun _ i _ => n' - (intOf i).toNat)
  case atStart => exact ⟨0, Nat.zero_le _, rfl, OwnR.nil _ _ _, Ext.refl _⟩
  case round =>
    obtain ⟨j, hj, rfl, ho, hx⟩ := hrel
    obtain ⟨Av, nv, cv, rfl⟩ := ho.form
    have HO := Lib.hid ho
    have HXR := Lib.hid hx
    have hsz := hx.size_le
    have hrl : (rowsQ L (l.take j)).length + 1 ≤ 1000000000000 := by
      have e1 := rowsQ_len L (l.take j)
      have e2 : (l.take j).length ≤ j := List.length_take_le _ _
      omega
    have HRL := Lib.hid hrl
    clear ho hx hrl
    by_cases hlt : j < n'
    · obtain ⟨ad, x, rfl, hx, hcx, hxa, hxb⟩ := (h'.ext (HXA.out.trans HXR.out)).at_ hlt
      have HS : Hid (rowsQ L (l.take (j + 1)) = rowsQ L (l.take j) ++ (if 0 ≤ x ∧ x < (L.length : Int) then [L.getD x.toNat []] else [])) := by unfold Hid; rw [take_succ_of hx.out, rowsQ_snoc]
      have y0 := (HB0.out.ext HXR.out).cell 0
      have b0 : (0 : Int) ≤ (j : Int) := by omega
      have b1 : (j : Int) < (n' : Int) := by omega
      by_cases hx0 : 0 ≤ x
      · by_cases hx1 : x < (n : Int)
        · obtain ⟨k, rfl⟩ := Int.eq_ofNat_of_zero_le hx0
          have hkn : k < n := by omega
          obtain ⟨ad2, xs, A5, n5, c5, rfl, hy, hcy, hrow⟩ := h.at_ hkn
          have hcy' := (hX0.trans (HXA.out.trans HXR.out)).cell hcy
          have HROW := Lib.hid hrow
          have HSN : Hid (rowsQ L (l.take (j + 1)) = rowsQ L (l.take j) ++ [xs]) := by
            unfold Hid
            rw [HS.out, if_pos ⟨hx0, by rw [HLn.out]; exact hx1⟩, Int.toNat_natCast, List.getD_eq_getElem?_getD, hy.out]; rfl
          clear hrow hcy
          go_wp2_with fail
          go_quiet (fail)
          have y0' := ((Ext.refl wr).drewN 1).cell y0
          go_wp2_with fail
          go_region_law
            ((refine step_appendR1 w0 _ (by rfl) (.tmp 28) (.tmp 37) (by rfl) w1.heap.size _ (rowsQ L (l.take j)) (by rfl) (HO.out.ext (show Ext wr _ by (repeat (first | with_reducible exact Ext.refl _ | with_reducible apply Ext.alloc | with_reducible apply Ext.drew | with_reducible apply Ext.drewN | (apply Ext.trans'; assumption))))) _ _ A5 n5 c5 xs (by rfl) (by first | exact cell_one _ _ _ | go_simp) HROW.out HRL.out (by simp; omega) ?_; intro A6 n6 c6 w6 ho6 hg6; have HO6 := Lib.hid ho6; have HG6 := Lib.hid hg6; clear ho6 hg6))
          all_goals
            go_wp2_with fail
            go_roundw
            case rel => exact ⟨j + 1, by omega, by go_num, by rw [HSN.out]; exact HO6.out, Ext.grown (HXR.out.trans (show Ext wr _ by (repeat (first | with_reducible exact Ext.refl _ | with_reducible apply Ext.alloc | with_reducible apply Ext.drew | with_reducible apply Ext.drewN | (apply Ext.trans'; assumption))))) HG6.out (fun q hq => (HO.out.blk q hq).1)⟩
            case measure => simp [intOf]; omega
        · have HSN : Hid (rowsQ L (l.take (j + 1)) = rowsQ L (l.take j)) := by
            unfold Hid
            rw [HS.out, if_neg (by rw [HLn.out]; omega), List.append_nil]
          have hd1 : decide (x < (n : Int)) = false := decide_eq_false hx1
          have hd0 : decide (0 ≤ x) = true := decide_eq_true hx0
          go_wp2_with fail
          go_quiet (fail)
          go_wp2_with fail
          go_roundw
          case rel => exact ⟨j + 1, by omega, by go_num, by rw [HSN.out]; exact HO.out.drewN _, HXR.out.drewN _⟩
          case measure => simp [intOf]; omega
      · have HSN : Hid (rowsQ L (l.take (j + 1)) = rowsQ L (l.take j)) := by
          unfold Hid
          rw [HS.out, if_neg (by omega), List.append_nil]
        have hd0 : decide (0 ≤ x) = false := decide_eq_false hx0
        go_wp2_with fail
        go_quiet (fail)
        go_wp2_with fail
        go_roundw
        case rel => exact ⟨j + 1, by omega, by go_num, by rw [HSN.out]; exact HO.out.drewN _, HXR.out.drewN _⟩
        case measure => simp [intOf]; omega
    · have ho := HO.out
      rw [take_len_of h'.1 hlt] at ho
      have hql := rowsQ_len L l
      obtain ⟨A6, n6, c6, e6, hs6, hc6⟩ := ho.sl (hX0.trans (HXA.out.trans HXR.out)) (by have := h'.1; omega)
      cases e6
      have HS6 := Lib.hid hs6
      have HO6 := Lib.hid ho
      clear ho hs6 HO
      go_wp2_with fail
      go_ret
      exact ⟨_, _, _, rfl, HS6.out, hc6, ⟨_, HXA.out.size_le, HO6.out⟩, HXA.out.trans HXR.out⟩
def few9V (L : List (List Int)) (cl ah : List Int) (each : List (List Int)) : Bool := few8V L cl && decide (ah.length ≤ 30) && decide (each.length ≤ 60) && each.all fun r => decide (r.length ≤ 30)
set_option maxHeartbeats 4000000 in
theorem few9_c (A : Option Addr) (n c : Nat) (L : List (List Int)) (A1 : Option Addr) (n1 c1 : Nat) (cl : List Int) (A2 : Option Addr) (n2 c2 : Nat) (ah : List Int) (A3 : Option Addr) (n3 c3 : Nat) (each : List (List Int)) (w : World) (h : RowsSl w A n L) (h1 : IntSl w A1 n1 cl) (h2 : IntSl w A2 n2 ah) (h3 : RowsSl w A3 n3 each) :
    Calls Try.prog 33 #[.agg #[.slice A n c, .slice A1 n1 c1, .slice A2 n2 c2, .slice A3 n3 c3]] w fun e w' => e = .returned (.bool (few9V L cl ah each)) ∧ Ext w w' := by
  have hn3 := h3.len
  have HE : Hid (few9V L cl ah each = (few8V L cl && decide (n2 ≤ 30) && decide (n3 ≤ 60) && each.all fun r => decide (r.length ≤ 30))) := by unfold Hid few9V; rw [h2.1, h3.1]
  have HL3 := Lib.hid h3.1
  have hb0 := Blk.new w 61 #[.slice A n c, .slice A1 n1 c1, .slice A2 n2 c2, .slice A3 n3 c3]
  have HB0 := Lib.hid hb0
  have HXA : Hid (Ext w (w.alloc (Obj.cells #[.slice A n c, .slice A1 n1 c1, .slice A2 n2 c2, .slice A3 n3 c3] 61))) := (Ext.refl _).alloc _
  clear hb0
  go_enter Try.func33, Try.ntmps33
  go_wp2_with fail
  refine (few8_c _ _ _ L _ _ _ cl _ (h.ext HXA.out) (h1.ext HXA.out)).mono ?_
  rintro e w1 ⟨rfl, hx1⟩
  have y2 := (HB0.out.ext hx1).cell 2
  have y3 := (HB0.out.ext hx1).cell 3
  have HX1 := Lib.hid (HXA.out.trans hx1)
  clear hx1
  cases hf : few8V L cl with
  | false =>
    have HR : Hid (few9V L cl ah each = false) := by unfold Hid; rw [HE.out, hf]; rfl
    clear hf
    go_wp2_with fail
    go_ret
    exact ⟨ret_bool HR.out.symm, HX1.out⟩
  | true =>
    by_cases h30 : n2 ≤ 30
    · by_cases h60 : n3 ≤ 60
      · have HR : Hid (few9V L cl ah each = each.all fun r => decide (r.length ≤ 30)) := by unfold Hid; rw [HE.out, hf, decide_eq_true h30, decide_eq_true h60]; simp
        clear hf
        go_wp2_with fail
        go_loop [3] (fun i => ∃ k : Nat, k ≤ n3 ∧ i = .int .i64 k ∧ ((each.take k).all fun r => decide (r.length ≤ 30)) = true) (fun i => n3 - (intOf i).toNat)
        case atStart => exact ⟨0, Nat.zero_le _, rfl, rfl⟩
        case round =>
          obtain ⟨k, hk, rfl, hall⟩ := hrel
          have HALL := Lib.hid hall
          clear hall
          by_cases hlt : k < n3
          · obtain ⟨ad, ys, A5, n5, c5, rfl, hy, hcy, hrow⟩ := (h3.ext HX1.out).at_ hlt
            have hl5 := hrow.1
            by_cases h530 : 30 < n5
            · have HR2 : Hid (few9V L cl ah each = false) := by
                unfold Hid
                rw [HR.out]
                cases e : each.all fun r => decide (r.length ≤ 30) with
                | false => rfl
                | true =>
                  rw [List.all_eq_true] at e
                  have := e ys (List.mem_of_getElem? hy.out)
                  simp at this; omega
              clear hl5
              go_wp2_with fail
              go_ret
              exact ⟨ret_bool HR2.out.symm, HX1.out⟩
            · have HS : Hid (((each.take (k + 1)).all fun r => decide (r.length ≤ 30)) = true) := by
                unfold Hid
                rw [take_succ_of hy.out, List.all_append, HALL.out]
                simp; omega
              clear hl5
              go_wp2_with fail
              go_round
              case rel => exact ⟨k + 1, by omega, by go_num, HS.out⟩
              case measure => simp [intOf]; omega
          · have HR2 : Hid (few9V L cl ah each = true) := by
              unfold Hid
              rw [HR.out]
              have e := HALL.out
              rwa [List.take_of_length_le (by have := HL3.out; omega)] at e
            go_wp2_with fail
            go_ret
            exact ⟨ret_bool HR2.out.symm, HX1.out⟩
      · have HR : Hid (few9V L cl ah each = false) := by unfold Hid; rw [HE.out, decide_eq_false h60]; simp
        clear hf
        go_wp2_with fail
        go_ret
        exact ⟨ret_bool HR.out.symm, HX1.out⟩
    · have HR : Hid (few9V L cl ah each = false) := by unfold Hid; rw [HE.out, decide_eq_false h30]; simp
      clear hf
      go_wp2_with fail
      go_ret
      exact ⟨ret_bool HR.out.symm, HX1.out⟩
end Go.Proofs.Ytdhohoabcokdjaa
