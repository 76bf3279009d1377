/- Layer 7 (units): Next, Closed. -/
import Derived.Test.YthkjcdkdfeckbaaUnits2
import Derived.Laws.EntriesVeiled
import Derived.BigQuiet
namespace Go.Proofs.Ythkjcdkdfeckbaa
open Go.RowKit Go.Maps

theorem enters_next : Enters 46 := by
  intro args w
  go_simp

theorem next1_c (g b kk : Nat) (l : List Int) (q : Addr) (A : Option Addr) (n c : Nat) (cl : List Int) (w : World) (hq : w.cell? q = some (.pointer (some ⟨g, 0, none⟩))) (hp : w.cell? ⟨g, 0, none⟩ = some (.map (some b))) (hc : Cnt w b kk (cntV l)) (h : IntSl w A n cl) :
    Calls Try.prog 46 #[.slice A n c, .pointer (some q)] w fun e w' => e = .returned (.bool (unitB l cl)) ∧ w = w' := by
  have HC := Lib.hid hc
  clear hc
  cases hh : lookH l cl with
  | true =>
    have hM : lookM l cl = 0 := by rw [lookM, hh]; rfl
    have HU := Lib.hid (look_holds hh).2
    go_enter Try.func46, Try.ntmps46
    go_wp2_with (go_at_call 47; (with_reducible refine (look_c _ _ _ l _ _ _ cl _ hp HC.out h).mono ?_); rintro e w' ⟨rfl, rfl⟩)
    go_ret
    exact ⟨ret_bool HU.out.symm, rfl⟩
  | false =>
    rcases look_open hh with ⟨hM, _, hu⟩ | ⟨hM, _, hu, _⟩ | ⟨hM, _, hu⟩
    all_goals
      have HU := Lib.hid hu
      clear hu
      go_enter Try.func46, Try.ntmps46
      go_wp2_with (go_at_call 47; (with_reducible refine (look_c _ _ _ l _ _ _ cl _ hp HC.out h).mono ?_); rintro e w' ⟨rfl, rfl⟩)
      go_ret
      exact ⟨ret_bool HU.out.symm, rfl⟩

theorem idxRows_c (A : Option Addr) (n c : Nat) (L : List (List Int)) (p : List Int → Bool) (F : Nat) (q : Value) (w : World) (h : RowsSl w A n L) (hF : Enters F)
    (hf : ∀ A' n' c' xs, IntSl w A' n' xs → Calls Try.prog F #[.slice A' n' c', q] w fun e w' => e = .returned (.bool (p xs)) ∧ w = w') :
    Calls Try.prog 48 #[.slice A n c, .func (.func F) #[] #[q]] w fun e w' => e = .returned (.int .i64 (idxP p L)) ∧ w = w' := by
  have hn := h.len
  go_enter Try.func48, Try.ntmps48
  go_wp2
  go_loop [8] (fun i => ∃ k : Nat, k ≤ n ∧ i = .int .i64 k ∧ (L.take k).findIdx? p = none) (fun i => n - (intOf i).toNat)
  case atStart => exact ⟨0, Nat.zero_le _, rfl, rfl⟩
  case round =>
    obtain ⟨k, hk, rfl, hno⟩ := hrel
    have HN := Lib.hid hno
    clear hno
    by_cases hlt : k < n
    · obtain ⟨ad, xs, A', n', c', rfl, hy, hc, hrow⟩ := h.at_ hlt
      cases hp : p xs with
      | true =>
        have HPY := Lib.hid hp
        clear hp
        go_wp2_with fail
        rw [hF, Oper.upon_enter]
        refine (hf _ _ _ xs hrow).mono ?_
        rintro e w' ⟨rfl, rfl⟩
        rw [HPY.out]
        go_wp2
        go_ret
        exact ⟨ret_int (by rw [idxP, findIdx_hit HN.out hy.out HPY.out]), rfl⟩
      | false =>
        have HPY := Lib.hid hp
        clear hp
        go_wp2_with fail
        rw [hF, Oper.upon_enter]
        refine (hf _ _ _ xs hrow).mono ?_
        rintro e w' ⟨rfl, rfl⟩
        rw [HPY.out]
        go_wp2
        go_round
        case rel => exact ⟨k + 1, by omega, by go_num, findIdx_snoc_none HN.out hy.out HPY.out⟩
        case measure => simp [intOf]; omega
    · go_wp2
      go_ret
      refine ⟨ret_int ?_, rfl⟩
      have := HN.out
      rw [take_len_of h.1 hlt] at this
      rw [idxP, this]

set_option maxHeartbeats 1000000 in
theorem closed_c (A : Option Addr) (n c : Nat) (L : List (List Int)) (A' : Option Addr) (n' c' : Nat) (l : List Int) (w : World) (h : RowsSl w A n L) (h' : IntSl w A' n' l) (hsm : n' ≤ 1000000000000) :
    Calls Try.prog 17 #[.slice A n c, .slice A' n' c'] w fun e w' => e = .returned (.bool (decide (failsV l L < 0) && decide (nextU l L < 0))) ∧ Ext w w' := by
  go_enter Try.func17, Try.ntmps17
  go_wp2_with fail
  refine (begin_c _ _ _ l _ h' hsm).mono ?_
  rintro e w1 ⟨g, b, rfl, hB, hC, hg1, hg2, hg3, hx⟩
  go_wp2_with fail
  refine (step_c _ _ _ l _ _ _ L _ (hB.cell 0) hC (h.ext hx)).mono ?_
  rintro e w' ⟨f, u, s, rfl, hf, hus, rfl⟩
  have HX := Lib.hid hx
  clear hx hB hC
  by_cases hf0 : f < 0
  · obtain ⟨hu, _⟩ := hus hf0
    have HF := Lib.hid hf
    have HU := Lib.hid hu
    clear hf hu hus
    go_wp2
    go_ret
    exact ⟨ret_bool (by rw [← HF.out, ← HU.out, decide_eq_true hf0]; rfl), HX.out⟩
  · have HF := Lib.hid hf
    clear hf hus
    go_wp2
    go_ret
    exact ⟨ret_bool (by rw [← HF.out, decide_eq_false (show ¬ f < 0 by omega)]; rfl), HX.out⟩

theorem rClosed_c (A : Option Addr) (n c : Nat) (L : List (List Int)) (A' : Option Addr) (n' c' : Nat) (l : List Int) (w : World) (h : RowsSl w A n L) (h' : IntSl w A' n' l) :
    Calls Try.prog 18 #[.slice A n c, .slice A' n' c'] w fun e w' => e = .returned (.bool (decide (failsV l L < 0) && decide (nextU l L < 0))) ∧ Ext w w' := by
  go_enter Try.func18, Try.ntmps18
  go_wp2_with fail
  refine (rNext_c _ _ _ L _ _ _ l _ h h').mono ?_
  rintro e w1 ⟨x, i, t, rfl, hx, hi, ht, hx1⟩
  have HX := Lib.hid hx1
  have HT := Lib.hid ht
  clear hx hi ht hx1
  have hl1 := h'.ext HX.out
  have hL1 := h.ext HX.out
  cases t with
  | true =>
    have h0 : ¬ nextU l L < 0 := by have := HT.out; have := of_decide_eq_true this.symm; omega
    go_wp2
    go_ret
    exact ⟨ret_bool (by rw [decide_eq_false (show ¬ nextU l L < 0 by omega), Bool.and_false]), HX.out⟩
  | false =>
    have h0 : nextU l L < 0 := by have := HT.out; have := of_decide_eq_false this.symm; omega
    have H0 := Lib.hid h0
    clear h0
    go_wp2_with (go_at_call 51; (with_reducible refine (rFails_c _ _ _ L _ _ _ l _ hL1 hl1).mono ?_); rintro e w' ⟨rfl, rfl⟩)
    go_ret
    exact ⟨ret_bool (by rw [decide_eq_true H0.out, Bool.and_true]), HX.out⟩

theorem look_unit {l c : List Int} (h : unitB l c = true) : lookH l c = false ∧ lookM l c = 1 ∧ lookO l c = unitU l c := by
  cases hh : lookH l c with
  | true => rw [(look_holds hh).2] at h; cases h
  | false =>
    rcases look_open hh with ⟨_, _, hu⟩ | ⟨hM, _, _, ho⟩ | ⟨_, _, hu⟩
    · rw [hu] at h; cases h
    · exact ⟨rfl, hM, ho⟩
    · rw [hu] at h; cases h

set_option maxHeartbeats 2000000 in
theorem next_c (A : Option Addr) (n c : Nat) (L : List (List Int)) (A' : Option Addr) (n' c' : Nat) (l : List Int) (w : World) (h : RowsSl w A n L) (h' : IntSl w A' n' l) (hsm : n' ≤ 1000000000000) :
    Calls Try.prog 12 #[.slice A n c, .slice A' n' c'] w (RetNext l L w) := by
  have hbd := idxP_bd (unitB l) L
  have hfold : idxP (unitB l) L = nextU l L := rfl
  rw [h.1, hfold] at hbd
  obtain ⟨hbd1, hbd2⟩ := hbd
  clear hfold
  go_enter Try.func12, Try.ntmps12
  go_wp2_with fail
  refine (begin_c _ _ _ l _ h' hsm).mono ?_
  rintro e w1 ⟨g, b, rfl, hB, hC, hg1, hg2, hg3, hx⟩
  go_wp2_with fail
  have hB2 := hB.alloc (Obj.cells #[.pointer (some ⟨g, 0, none⟩)] 59)
  have hC2 := hC.ext ((Ext.refl w1).alloc (Obj.cells #[.pointer (some ⟨g, 0, none⟩)] 59))
  have hQ := (Blk.new w1 59 #[.pointer (some ⟨g, 0, none⟩)]).cell 0
  have hX := hx.alloc (Obj.cells #[.pointer (some ⟨g, 0, none⟩)] 59)
  refine (idxRows_c _ _ _ L (unitB l) _ _ _ (h.ext hX) enters_next ?_).mono ?_
  · intro A1 n1 c1 xs hxs
    exact next1_c g b _ l _ _ _ _ xs _ hQ (hB2.cell 0) hC2 hxs
  rintro e w' ⟨rfl, rfl⟩
  rw [show idxP (unitB l) L = nextU l L from rfl]
  have HX := Lib.hid hX
  have HC2 := Lib.hid hC2
  have HB2 := Lib.hid hB2
  clear hX hC2 hB2 hx hB hC
  by_cases h0 : nextU l L < 0
  · have hS : nextS l L = 0 := by rw [nextS, idxP_neg.1 h0]
    have HS := Lib.hid hS
    have H0 := Lib.hid h0
    clear hS
    go_wp2
    go_ret3
    exact ⟨_, _, _, rfl, HS.out.symm, by rw [if_neg (by have := H0.out; omega)], by rw [decide_eq_false (by have := H0.out; omega)], HX.out⟩
  · obtain ⟨k, hk⟩ := Int.eq_ofNat_of_zero_le (show 0 ≤ nextU l L by omega)
    have hkn : k < n := by omega
    obtain ⟨ad, xs, A1, n1, c1, rfl, hy, hcx, hrow⟩ := (h.ext HX.out).at_ hkn
    have hfi : L.findIdx? (unitB l) = some k := by
      have : idxP (unitB l) L = k := hk
      unfold idxP at this
      cases e : L.findIdx? (unitB l) with
      | none =>
        rw [e] at this
        have t : (-1 : Int) = (k : Int) := this
        omega
      | some j =>
        rw [e] at this
        have t : (j : Int) = (k : Int) := this
        rw [show j = k by omega]
    have hub : unitB l xs = true := by
      have := hfi
      rw [List.findIdx?_eq_some_iff_getElem] at this
      obtain ⟨hlt, hp, _⟩ := this
      have e := hy.out
      rw [List.getElem?_eq_getElem hlt] at e
      rw [← Option.some.inj e]; exact hp
    have hS : nextS l L = unitU l xs := by
      rw [nextS, hfi]
      simp only [List.getD_eq_getElem?_getD, hy.out, Option.getD_some]
    obtain ⟨l1, l2, l3⟩ := look_unit hub
    have q := fun m => look_c g b _ l A1 n1 c1 xs _ ((HB2.out.ext ((Ext.refl _).drewN m)).cell 0) (HC2.out.ext ((Ext.refl _).drewN m)) (hrow.ext ((Ext.refl _).drewN m))
    rw [l1, l2, l3] at q
    have b0 : (0 : Int) ≤ (k : Int) := by omega
    have b1 : (k : Int) < (n : Int) := by omega
    have HK := Lib.hid hk
    have HS := Lib.hid hS
    rw [HK.out]
    clear hk hfi hub hS l1 l2 l3 h0 hbd1 hbd2
    go_wp2
    go_quiet ((go_at_call 47; with_reducible exact quiet_left (q _)))
    go_wp2
    go_ret3
    exact ⟨_, _, _, rfl, HS.out.symm, by rw [HK.out, if_pos (by omega)], by rw [HK.out, decide_eq_true (by omega)], HX.out.drewN _⟩
end Go.Proofs.Ythkjcdkdfeckbaa
