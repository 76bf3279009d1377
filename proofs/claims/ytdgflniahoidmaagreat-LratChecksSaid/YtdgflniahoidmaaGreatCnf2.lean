/- Layer 4 (cnf): may a formula be? -/
import Derived.Test.YtdgflniahoidmaaGreatCnf1
set_option maxRecDepth 100000
namespace Go.Proofs.YtdgflniahoidmaaGreat
open Go.RowKit Go.Maps

/-- A list's different numbers. -/
def dedL (xs : List Int) : List Int := xs.foldl (fun a x => if hasV a x then a else a ++ [x]) []
theorem dedL_snoc (xs : List Int) (x : Int) : dedL (xs ++ [x]) = if hasV (dedL xs) x then dedL xs else dedL xs ++ [x] := by unfold dedL; rw [List.foldl_append]; rfl
theorem foldl_snoc_ind {P : List Int → Prop} (h0 : P []) (hs : ∀ xs x, P xs → P (xs ++ [x])) (xs : List Int) : P xs := by
  have : ∀ n, ∀ xs : List Int, xs.length = n → P xs := by
    intro n
    induction n with
    | zero => intro xs h; rw [List.eq_nil_of_length_eq_zero h]; exact h0
    | succ n ih =>
      intro xs h
      have hne : xs ≠ [] := fun e => by rw [e] at h; simp at h
      rw [← List.dropLast_concat_getLast hne]
      exact hs _ _ (ih _ (by rw [List.length_dropLast]; omega))
  exact this _ xs rfl
theorem dedL_has (xs : List Int) (x : Int) : hasV (dedL xs) x = hasV xs x := by
  refine foldl_snoc_ind (P := fun xs => hasV (dedL xs) x = hasV xs x) rfl (fun xs y ih => ?_) xs
  rw [dedL_snoc, hasV_snoc]
  cases h : hasV (dedL xs) y with
  | true =>
    rw [if_pos rfl, ih]
    by_cases e : x = y
    · subst e; rw [ih] at h; rw [h]; rfl
    · have e' : (y == x) = false := by rw [beq_eq_false_iff_ne]; exact fun h => e h.symm
      cases hasV xs x <;> simp [e'] <;> first | rfl | (intro h; exact e (by first | exact h | exact h.symm)) | skip
  | false => rw [if_neg (by simp), hasV_snoc, ih]
theorem dedL_len (xs : List Int) : (dedL xs).length ≤ xs.length := by
  refine foldl_snoc_ind (P := fun xs => (dedL xs).length ≤ xs.length) (Nat.le_refl _) (fun xs y ih => ?_) xs
  rw [dedL_snoc]
  split
  · simp; omega
  · simp; omega

/-- A map that counts the numbers xs. -/
def CntS (w : World) (b k : Nat) (xs : List Int) : Prop :=
  ∃ D : DataW Unit, w.ownsMap Tryz.prog 3 (plainElem Tryz.prog 3) b k D ∧ Tidy D ∧ Maps.size D = (dedL xs).length ∧
    ∀ x : Int, -9223372036854775808 ≤ x → x ≤ 9223372036854775807 → Maps.has D (.int .i64 x) = hasV xs x ∧ D.atKey (.int .i64 x) (.lit (.int .i64 0)) = .lit (.int .i64 (cntV xs x))
section
variable {w w' : World} {b k : Nat} {xs : List Int}
theorem CntS.made (w : World) : CntS (w.alloc (.map #[] 0)) w.heap.size 0 [] :=
  ⟨.map [], World.ownsMap_made _ _ _ _, ⟨[], rfl, List.Pairwise.nil⟩, rfl, fun _ _ _ => ⟨rfl, rfl⟩⟩
theorem CntS.lt (h : CntS w b k xs) : b < w.heap.size := let ⟨_, h1, _⟩ := h; h1.lt
theorem CntS.keep (h : CntS w b k xs) (e : w'.heap[b]? = w.heap[b]?) : CntS w' b k xs := by
  obtain ⟨D, ⟨es, cl, hb, r⟩, h2⟩ := h
  exact ⟨D, ⟨es, cl, e.trans hb, r⟩, h2⟩
theorem CntS.ext (h : CntS w b k xs) (hx : Ext w w') : CntS w' b k xs := h.keep (hx.block b h.lt)
theorem CntS.mono {k' : Nat} (h : CntS w b k xs) (hk : k ≤ k') : CntS w b k' xs := let ⟨D, h1, h2⟩ := h; ⟨D, h1.mono hk, h2⟩
theorem CntS.cnt (h : CntS w b k xs) : Cnt w b k (cntV xs) := by
  obtain ⟨D, h1, ⟨es, rfl, _⟩, _, h4⟩ := h
  exact ⟨_, h1, ⟨es, rfl⟩, fun x a c => (h4 x a c).2⟩
set_option maxRecDepth 100000 in
theorem CntS.set (h : CntS w b k xs) (hk : k ≤ 1000000000000000000) (x : Int) (hx : -9223372036854775808 ≤ x ∧ x ≤ 9223372036854775807) (hy : -9223372036854775808 ≤ cntV xs x + 1 ∧ cntV xs x + 1 ≤ 9223372036854775807) :
    ∃ w', (Instr.mapUpdate 94 (.map (some b)) (.int .i64 x) (.int .i64 (cntV xs x + 1))).run Tryz.prog w = .ok () w' ∧ CntS w' b (k + 1) (xs ++ [x]) ∧ w.grownBy w' (some b) := by
  obtain ⟨D, h1, h2, h3, h4⟩ := h
  obtain ⟨w', hrun, g1, g2⟩ := h1.update keyInt Tryz.underlying94 (by unfold maxLen; omega) (keyOf_int_mk Tryz.underlying3 (wf_i64_mk hx)) (plainElem_int Tryz.underlying3 (wf_i64_mk hy))
  have hm : IsMap D := by obtain ⟨es, rfl, _⟩ := h2; exact ⟨es, rfl⟩
  have hsn := cntV_snoc xs x
  refine ⟨w', hrun, ⟨_, g1, Tidy.put h2 (by trivial) _, ?_, fun z hz1 hz2 => ?_⟩, g2⟩
  · rw [size_put h2, (h4 x hx.1 hx.2).1, h3, dedL_snoc, dedL_has]
    cases hasV xs x <;> simp
  · rw [← hsn]
    dsimp only
    by_cases e : z = x
    · subst e
      rw [if_pos rfl, atKey_put_same hm (by trivial), has_put_same hm (by trivial), hasV_snoc]
      simp
    · have e' : (x == z) = false := by rw [beq_eq_false_iff_ne]; exact fun h => e h.symm
      rw [if_neg e, atKey_put_other (fun h => e (by injection h)), has_put_other (fun h => e (by injection h)), hasV_snoc]
      obtain ⟨q1, q2⟩ := h4 z hz1 hz2
      refine ⟨?_, q2⟩
      rw [q1]
      cases hasV xs z <;> simp [e'] <;> first | rfl | (intro h; exact e (by first | exact h | exact h.symm)) | skip
end
theorem wpList_setS (w : World) {ops : Array Oper} {rest : List Oper} {o : Oper} {a : Act} {Q : Exit → Act → World → Prop} (hg : o.guard = none) (m x v : Operand) (hop : o.op = Op.mapUpdate 94 m x v)
    (b k : Nat) (xs : List Int) (hm : a.eval m = .map (some b)) (hc : CntS w b k xs) (hk : k ≤ 1000000000000000000) (y : Int) (hx : a.eval x = .int .i64 y) (hv : a.eval v = .int .i64 (cntV xs y + 1))
    (hy : -9223372036854775808 ≤ y ∧ y ≤ 9223372036854775807) (hz : -9223372036854775808 ≤ cntV xs y + 1 ∧ cntV xs y + 1 ≤ 9223372036854775807)
    (hK : ∀ w', CntS w' b (k + 1) (xs ++ [y]) → w.grownBy w' (some b) → wpList Tryz.prog ops Q rest (a.put o.dst undef) w') : wpList Tryz.prog ops Q (o :: rest) a w := by
  refine wpList_plain hg fun K' hK' => ?_
  obtain ⟨w', hrun, r1, r2⟩ := hc.set hk y hy hz
  unfold Oper.wp
  simp [execOp, hop, hm, hx, hv, hrun, Result.andThen]
  exact hK' _ _ (hK w' r1 r2)
theorem wpList_lenS (w : World) {ops : Array Oper} {rest : List Oper} {o : Oper} {a : Act} {Q : Exit → Act → World → Prop} (hg : o.guard = none) (m : Operand) (hop : o.op = Op.call { callee := Callee.builtin Builtin.len, args := #[m], argTypes := #[94] })
    (b k : Nat) (xs : List Int) (hm : a.eval m = .map (some b)) (hc : CntS w b k xs) (hK : wpList Tryz.prog ops Q rest (a.put o.dst (.int .i64 ((dedL xs).length : Nat))) w) : wpList Tryz.prog ops Q (o :: rest) a w := by
  obtain ⟨D, h1, h2, h3, h4⟩ := hc
  refine wpList_len_own w hg m _ hop 3 3 Tryz.underlying94 _ b k D hm h1 ?_
  rw [h3]; exact hK

def RetSeenS (xs : List Int) (w : World) (e : Ending) (w' : World) : Prop :=
  ∃ b, e = .returned (.map (some b)) ∧ CntS w' b xs.length (seenL xs) ∧ Ext w w'

set_option maxHeartbeats 1000000 in
theorem seenS_c (A : Option Addr) (n c : Nat) (xs : List Int) (w : World) (h : IntSl w A n xs) (hsm : n ≤ 1000000000) :
    Calls Tryz.prog 59 #[.slice A n c] w (RetSeenS xs w) := by
  have hmm := fun (n : Int) (W : World) => run_makeMap_hint (P := Tryz.prog) 94 3 3 .i64 n Tryz.underlying94 W
  go_enter Tryz.func59, Tryz.ntmps59
  go_wp2
  go_loopw [11] (fun i wr => ∃ (k : Nat) (cs : List Int), cs = seenL (xs.take k) ∧ k ≤ n ∧ i = .int .i64 k ∧ CntS wr w.heap.size k cs ∧ Ext w wr) (fun i _ => n - (intOf i).toNat)
  case atStart => exact ⟨0, [], rfl, Nat.zero_le _, rfl, CntS.made w, (Ext.refl _).alloc _⟩
  case round =>
    obtain ⟨k, cs, hcs, hk, rfl, hc, hx⟩ := hrel
    have hbl : cs.length ≤ k := by rw [hcs]; have := seenL_len (xs.take k); have := List.length_take_le k xs; omega
    have HCS := Lib.hid hcs
    have HC := Lib.hid hc
    have HX := Lib.hid hx
    clear hcs hc hx
    by_cases hlt : k < n
    · obtain ⟨ad, x, rfl, hx, hcx, hx1, hx2⟩ := (h.ext HX.out).at_ hlt
      have HT := Lib.hid (take_succ_of hx.out)
      have HS := Lib.hid (seenL_snoc (xs.take k) x)
      obtain ⟨hvb1, hvb2⟩ := varV_bd x
      obtain ⟨hb1, hb2⟩ := cntV_bd cs x
      by_cases hv : varV x = 0
      · have hvb : ¬ 0 < varV x := by omega
        have HV := Lib.hid hv
        clear hv
        go_wp2_with (go_at_call 85; refine (var_c _ _).mono ?_; rintro e w' ⟨rfl, rfl⟩)
        go_roundw
        case rel => exact ⟨k + 1, cs, by rw [HT.out, HS.out, if_neg (by simp [HV.out])]; exact HCS.out, by omega, by go_num, HC.out.mono (by omega), HX.out⟩
        case measure => simp [intOf]; omega
      · have hvb : 0 < varV x := by omega
        have HV := Lib.hid hv
        clear hv
        go_wp2_with (first
          | (go_at_call 85; refine (var_c _ _).mono ?_; rintro e w' ⟨rfl, rfl⟩)
          | (at_lookup; refine wpList_look _ rfl _ _ rfl _ _ _ rfl HC.out.cnt _ rfl ⟨hx1, hx2⟩ ?_)
          | (at_mapUpdate; refine wpList_setS _ rfl _ _ _ rfl _ _ _ rfl HC.out (by omega) _ rfl rfl ⟨hx1, hx2⟩ (by omega) ?_; intro w2 hc2 hg2; have HC2 := Lib.hid hc2; have HG2 := Lib.hid hg2; clear hc2 hg2))
        go_roundw
        case rel => exact ⟨k + 1, cs ++ [x], by rw [HT.out, HS.out, if_pos HV.out, HCS.out], by omega, by go_num, HC2.out, HX.out.grown HG2.out (fun j hj => by cases hj; exact Nat.le_refl _)⟩
        case measure => simp [intOf]; omega
    · go_wp2
      go_ret
      refine ⟨_, rfl, ?_, HX.out⟩
      have e := HCS.out
      rw [take_len_of h.1 hlt] at e
      rw [← e]
      exact HC.out.mono (by have := h.1; omega)

/-- What clause.Check tells. -/
def badC (c : List Int) (v : Int) : Option Int := c.find? fun x => decide (checkV x v ≠ 0)
def cCheckV (c : List Int) (v : Int) : Int :=
  if v < 0 ∨ 100000 < v then 2 else if 1000 < c.length then 3 else match badC c v with
    | some x => checkV x v
    | none => if (dedL (seenL c)).length < c.length then 21 else 0
theorem badC_none {c : List Int} {v : Int} (h : badC c v = none) : ∀ x ∈ c, checkV x v = 0 := by
  intro x hx
  unfold badC at h
  rw [List.find?_eq_none] at h
  have := h x hx
  simpa using this
theorem cCheckV_ok {c : List Int} {v : Int} (h : cCheckV c v = 0) : (0 ≤ v ∧ v ≤ 100000) ∧ c.length ≤ 1000 ∧ ∀ x ∈ c, checkV x v = 0 := by
  unfold cCheckV at h
  by_cases h1 : v < 0 ∨ 100000 < v
  · rw [if_pos h1] at h; cases h
  · rw [if_neg h1] at h
    by_cases h2 : 1000 < c.length
    · rw [if_pos h2] at h; cases h
    · rw [if_neg h2] at h
      cases hb : badC c v with
      | some x =>
        rw [hb] at h
        have := List.find?_some hb
        simp at this
        exact absurd h this
      | none => exact ⟨by omega, by omega, badC_none hb⟩

theorem find_snoc_none {α : Type} {p : α → Bool} {xs : List α} {y : α} {k : Nat} (h : (xs.take k).find? p = none) (hy : xs[k]? = some y) (hne : p y = false) : (xs.take (k + 1)).find? p = none := by
  rw [take_succ_of hy, List.find?_append, h]; simp [hne]
theorem find_hit {α : Type} {p : α → Bool} {xs : List α} {y : α} {k : Nat} (h : (xs.take k).find? p = none) (hy : xs[k]? = some y) (hp : p y = true) : xs.find? p = some y := by
  have e : xs = xs.take (k + 1) ++ xs.drop (k + 1) := (List.take_append_drop _ _).symm
  rw [e, take_succ_of hy, List.append_assoc, List.find?_append, h]
  simp [hp]

set_option maxHeartbeats 2000000 in
theorem clauseCheck_c (A : Option Addr) (n c : Nat) (cl : List Int) (v : Int) (w : World) (h : IntSl w A n cl) :
    Calls Tryz.prog 37 #[.slice A n c, .int .i64 v] w fun e w' => e = .returned (.int .i64 (cCheckV cl v)) ∧ Ext w w' := by
  have hlen := h.1
  have hn := h.len
  by_cases h1 : v < 0 ∨ 100000 < v
  · have HR : Hid (cCheckV cl v = 2) := by unfold Hid cCheckV; rw [if_pos h1]
    clear hlen
    rcases h1 with h1 | h1
    · go_enter Tryz.func37, Tryz.ntmps37
      go_wp2_with fail
      go_ret
      exact ⟨ret_int HR.out.symm, Ext.refl _⟩
    · have h0 : ¬ v < 0 := by omega
      go_enter Tryz.func37, Tryz.ntmps37
      go_wp2_with fail
      go_ret
      exact ⟨ret_int HR.out.symm, Ext.refl _⟩
  · have h0 : 0 ≤ v := by omega
    have h0' : v ≤ 100000 := by omega
    by_cases h2 : 1000 < n
    · have HR : Hid (cCheckV cl v = 3) := by unfold Hid cCheckV; rw [if_neg h1, if_pos (by omega)]
      clear hlen h1
      go_enter Tryz.func37, Tryz.ntmps37
      go_wp2_with fail
      go_ret
      exact ⟨ret_int HR.out.symm, Ext.refl _⟩
    · have HR : Hid (cCheckV cl v = match badC cl v with | some x => checkV x v | none => if (dedL (seenL cl)).length < n then 21 else 0) := by unfold Hid cCheckV; rw [if_neg h1, if_neg (by omega), hlen]
      clear hlen h1
      go_enter Tryz.func37, Tryz.ntmps37
      go_wp2_with fail
      go_loop [21] (fun i => ∃ k : Nat, k ≤ n ∧ i = .int .i64 k ∧ (cl.take k).find? (fun x => decide (checkV x v ≠ 0)) = none) (fun i => n - (intOf i).toNat)
      case atStart => exact ⟨0, Nat.zero_le _, rfl, rfl⟩
      case round =>
        obtain ⟨k, hk, rfl, hno⟩ := hrel
        have HN := Lib.hid hno
        clear hno
        by_cases hlt : k < n
        · obtain ⟨ad, x, rfl, hx, hcx, hx1, hx2⟩ := h.at_ hlt
          by_cases hcv : checkV x v = 0
          · have HCV := Lib.hid hcv
            clear hcv
            go_wp2_with (go_at_call 58; refine (litCheck_c _ _ _).mono ?_; rintro e w' ⟨rfl, rfl⟩; rw [HCV.out])
            go_round
            case rel => exact ⟨k + 1, by omega, by go_num, find_snoc_none HN.out hx.out (by simp [HCV.out])⟩
            case measure => simp [intOf]; omega
          · have HB := Lib.hid (find_hit (p := fun x => decide (checkV x v ≠ 0)) HN.out hx.out (by simp [hcv]))
            have hb : (checkV x v != 0) = true := by simpa using hcv
            clear hcv
            go_wp2_with (go_at_call 58; refine (litCheck_c _ _ _).mono ?_; rintro e w' ⟨rfl, rfl⟩)
            go_ret
            exact ⟨ret_int (by rw [HR.out, badC, HB.out]), Ext.refl _⟩
        · have hno := HN.out
          rw [take_len_of h.1 hlt] at hno
          have HN2 : Hid (badC cl v = none) := hno
          clear hno
          go_wp2_with fail
          refine (seenS_c _ _ _ cl _ h (by omega)).mono ?_
          rintro e w1 ⟨b, rfl, hC, hx⟩
          have HC := Lib.hid hC
          have HX := Lib.hid hx
          obtain ⟨D, g1, _, g3, _⟩ := hC
          have hl := g1.len Tryz.underlying94
          rw [g3] at hl
          clear hx g1 g3
          have hd1 := dedL_len (seenL cl)
          have hd2 := seenL_len cl
          have hd3 : (dedL (seenL cl)).length ≤ n := by have := h.1; omega
          clear hd1 hd2
          by_cases hdl : (dedL (seenL cl)).length < n
          all_goals
            go_wp2_with fail
            go_ret
            exact ⟨ret_int (by rw [HR.out, HN2.out]; first | exact (if_pos hdl).symm | exact (if_neg hdl).symm), HX.out⟩
end Go.Proofs.YtdgflniahoidmaaGreat
