/- Layer 11 (lrat): there, drop. -/
import Derived.Test.YtdgflniahoidmaaGreatLr6
import Derived.Lib.OwnBridge
import Derived.Test.YtdgflniahoidmaaGreatLr4
set_option maxRecDepth 100000
namespace Go.Proofs.YtdgflniahoidmaaGreat
open Go.RowKit Go.Shelf Go.Sort Go.Maps

/-! ### Plain: a sorted row has neighbours alike just where a number stands twice -/
theorem dedL_nodup (xs : List Int) : (dedL xs).length = xs.length ↔ xs.Nodup := by
  refine foldl_snoc_ind (P := fun xs => (dedL xs).length = xs.length ↔ xs.Nodup) (by simp [dedL]) (fun xs x ih => ?_) xs
  have hle := dedL_len xs
  rw [dedL_snoc, dedL_has, List.length_append, List.nodup_append]
  cases hx : hasV xs x with
  | true =>
    rw [if_pos rfl]
    have hm : x ∈ xs := by unfold hasV at hx; simpa using hx
    constructor
    · intro e; simp at e; omega
    · rintro ⟨_, _, h3⟩; exact absurd rfl (h3 x hm x (by simp))
  | false =>
    rw [if_neg (by simp)]
    have hm : x ∉ xs := fun hm => by unfold hasV at hx; simp at hx; exact hx x hm rfl
    rw [List.length_append]
    constructor
    · intro e
      refine ⟨ih.1 (by simp at e; omega), by simp, fun a ha b hb => ?_⟩
      simp at hb
      subst hb
      exact fun e => hm (e ▸ ha)
    · rintro ⟨h1, _, _⟩
      rw [ih.2 h1]
theorem sortZ_perm (xs : List Int) : (sortZ xs).Perm xs := List.mergeSort_perm xs _
theorem sortZ_sorted (xs : List Int) : (sortZ xs).Pairwise (· ≤ ·) := by
  have := List.pairwise_mergeSort (le := fun x y : Int => decide (x ≤ y)) (fun a b c h1 h2 => by simp at *; omega) (fun a b => by simp; omega) xs
  unfold sortZ
  exact this.imp fun h => by simpa using h
theorem compact_nodup {zs : List Int} (hs : zs.Pairwise (· ≤ ·)) : (Lib.compact zs).length = zs.length ↔ zs.Nodup := by
  have hget : ∀ j (h : j < zs.length), zs.toArray[j]! = zs[j] := fun j h => by
    rw [getElem!_pos zs.toArray j (by simpa using h)]; simp
  have key : (Lib.compact zs).length = zs.length ↔ ∀ j, j < zs.length → Lib.keeps zs.toArray j = true := by
    constructor
    · intro e
      unfold Lib.compact Lib.compactUpTo at e
      rw [List.length_map] at e
      have h2 : ((List.range zs.length).filter (Lib.keeps zs.toArray)).length = (List.range zs.length).length := by rw [e]; simp
      have h3 := List.length_filter_eq_length_iff.1 h2
      exact fun j hj => h3 j (List.mem_range.2 hj)
    · intro h; rw [Lib.compact_all zs h]
  rw [key]
  constructor
  · intro h
    have h4 : ∀ j, ∀ i, i < j → ∀ (hj : j < zs.length) (hi : i < zs.length), zs[i] < zs[j] := by
      intro j
      induction j with
      | zero => intro i hi; omega
      | succ j ih =>
        intro i hi hj hi2
        have hk := h (j + 1) hj
        have hne : zs.toArray[j + 1]! ≠ zs.toArray[j + 1 - 1]! := by
          intro e
          rw [Lib.keeps_neg (by omega) e] at hk; cases hk
        rw [hget _ hj, show j + 1 - 1 = j by omega, hget _ (by omega)] at hne
        have hle : zs[j]'(by omega) ≤ zs[j + 1] := List.pairwise_iff_getElem.1 hs j (j + 1) (by omega) hj (by omega)
        by_cases e : i = j
        · subst e; omega
        · have := ih i (by omega) (by omega) hi2
          omega
    refine List.pairwise_iff_getElem.2 fun i j hi hj hij e => ?_
    have := h4 j i hij hj hi
    rw [e] at this; omega
  · intro h j hj
    by_cases h0 : j = 0
    · subst h0; exact Lib.keeps_lt_one _ 0 (by omega)
    · refine Lib.keeps_pos ?_
      rw [hget j hj, hget (j - 1) (by omega)]
      have := List.pairwise_iff_getElem.1 h (j - 1) j (by omega) hj (by omega)
      exact fun e => this e.symm
theorem compact_len (xs : List Int) : decide ((Lib.compact (sortZ xs)).length < xs.length) = decide ((dedL xs).length < xs.length) := by
  have h1 : (sortZ xs).length = xs.length := (sortZ_perm xs).length_eq
  have h2 := compact_nodup (sortZ_sorted xs)
  have h3 := dedL_nodup xs
  have h4 := Lib.compact_length_le (sortZ xs)
  have h5 := dedL_len xs
  have h6 := (sortZ_perm xs).nodup_iff
  rw [h1] at h2 h4
  by_cases h : xs.Nodup
  · have a := h2.2 (h6.2 h)
    have b := h3.2 h
    rw [a, b]
  · have a : ¬ (Lib.compact (sortZ xs)).length = xs.length := fun e => h (h6.1 (h2.1 e))
    have b : ¬ (dedL xs).length = xs.length := fun e => h (h3.1 e)
    rw [decide_eq_true (by omega), decide_eq_true (by omega)]

theorem compactI_c (w0 w : World) (v : Value) (xs : List Int) (h : OwnI w w0.heap.size v xs) (hx : Ext w0 w) (hn : xs.length ≤ 1000000) :
    Calls Tryz.prog 43 #[v] w fun e w' => (∃ A c, e = .returned (.slice A (Lib.compact xs).length c)) ∧ Ext w0 w' := by
  have h0 : w.ownsRow w0.heap.size 3 1 v xs.length (xs.map (Value.int .i64)) := h
  rcases h0.2 with ⟨rfl, hz⟩ | ⟨gb, cap, cur, rfl, hbase, hgb, r1, r2, r3, r4⟩
  · have hxs : xs = [] := List.eq_nil_of_length_eq_zero hz
    subst hxs
    refine (Tryz.slices_Compact_int_empty none 0 w).mono ?_
    rintro e w' ⟨rfl, rfl⟩
    exact ⟨⟨none, 0, rfl⟩, hx⟩
  · have hH : Holds encZ w gb 0 xs.toArray := holds_of_block_i hgb (by simpa using r4)
    refine (Tryz.slices_Compact_int gb 0 cap xs w hH (by omega) r1).mono ?_
    rintro e w' ⟨rfl, q, rfl⟩
    exact ⟨⟨_, _, rfl⟩, Lib.below_putRow hx hbase⟩
end Go.Proofs.YtdgflniahoidmaaGreat

namespace Go.Proofs.YtdgflniahoidmaaGreat
open Go.RowKit Go.Shelf Go.Sort Go.Maps

theorem enters_there1 : Enters 66 := by
  intro args w
  go_simp

theorem there1_c (h : Int) (q : Addr) (p b : Nat) (S : CSt) (w : World) (hq : w.cell? q = some (.pointer (some ⟨p, 0, none⟩))) (hc : CMem w p b S) (hi : Inv11 S) (hb : -1000000000 ≤ h ∧ h ≤ 1000000000) :
    Calls Tryz.prog 66 #[.int .i64 h, .pointer (some q)] w fun e w' => e = .returned (.bool (!(getR S.rows (max h (-h))).isSome)) ∧ w = w' := by
  have c0 := hc.blk.cell 0
  obtain ⟨A, m, c, hl, _, _, _⟩ := hc.map.at hi.wide (max h (-h)) (by omega) true
  rw [if_pos rfl] at hl
  clear hc hi
  go_enter Tryz.func66, Tryz.ntmps66
  go_wp2
  go_ret
  exact ⟨ret_bool (by simp), rfl⟩

/-- The hints are in bounds. -/
def HintsIn (hints : List Int) : Prop := ∀ x ∈ hints, -10000000 ≤ x ∧ x ≤ 10000000

theorem there_c (w : World) (p b : Nat) (S : CSt) (A : Option Addr) (n c : Nat) (hints : List Int) (h : CMem w p b S) (hi : Inv11 S) (h' : IntSl w A n hints) (hh : HintsIn hints) :
    Calls Tryz.prog 45 #[.pointer (some ⟨p, 0, none⟩), .slice A n c] w fun e w' => e = .returned (.bool (thereV S.rows hints)) ∧ Ext w w' := by
  have hq := cell_one w (.pointer (some ⟨p, 0, none⟩)) 33
  have hx := (Ext.refl w).alloc (Obj.cells #[.pointer (some ⟨p, 0, none⟩)] 33)
  have HX := Lib.hid hx
  have HC := Lib.hid (h.ext hx)
  have HI := Lib.hid hi
  have HS := Lib.hid (h'.ext hx)
  have HV : Hid (thereV S.rows hints = !hints.any fun x => !(getR S.rows (max x (-x))).isSome) := rfl
  clear h hi h' hx
  go_enter Tryz.func45, Tryz.ntmps45
  go_wp2_with fail
  refine (containsFunc_c _ _ _ hints (fun x => !(getR S.rows (max x (-x))).isSome) _ _ _ HS.out enters_there1 ?_).mono ?_
  · intro x hxm
    have := hh x hxm
    exact there1_c x _ p b S _ hq HC.out HI.out (by omega)
  rintro e w' ⟨rfl, rfl⟩
  generalize (hints.any fun x => !(getR S.rows (max x (-x))).isSome) = r at HV
  go_wp2_with fail
  go_ret
  exact ⟨ret_bool (by rw [HV.out]), HX.out⟩

/-! ### drop -/
theorem getR_filter (R : List (Int × List Int)) (y x : Int) : getR (R.filter fun p => decide (p.1 ≠ y)) x = if x = y then none else getR R x := by
  unfold getR
  by_cases e : x = y
  · subst e
    rw [if_pos rfl, Option.map_eq_none_iff, List.find?_eq_none]
    intro p hp
    have := (List.mem_filter.1 hp).2
    simpa using this
  · rw [if_neg e]
    congr 1
    induction R with
    | nil => rfl
    | cons q R ih =>
      rw [List.filter_cons, List.find?_cons]
      by_cases h : q.1 = y
      · rw [if_neg (by simpa using h), ih]
        have : (q.1 == x) = false := by rw [beq_eq_false_iff_ne]; omega
        rw [this]
      · rw [if_pos (by simpa using h), List.find?_cons, ih]
theorem dropR_succ {R : List (Int × List Int)} {hints : List Int} {k : Nat} {x : Int} (hx : hints[k]? = some x) : dropR R (hints.take (k + 1)) = (dropR R (hints.take k)).filter fun p => decide (p.1 ≠ x) := by
  unfold dropR
  rw [List.filter_filter, take_succ_of hx]
  congr 1
  funext p
  rw [hasV_snoc]
  cases hasV (hints.take k) p.1 <;> simp
  exact Bool.eq_iff_iff.2 (by simp; exact eq_comm)
theorem MapC.drop {w w2 : World} {b k : Nat} {n y : Int} {f : Int → Option Value} {R : List (Int × List Int)} (hkn : (k : Int) ≤ n) (hm : MapV w b k f) (hr : ∀ x, RowAt w (f x) (getR R x))
    (hm2 : MapV w2 b k (fun z => if z = y then none else f z)) (hg : w.grownBy w2 (some b)) : MapC w2 b n (R.filter fun p => decide (p.1 ≠ y)) := by
  have keep : ∀ {u : Value} {xs : List Int}, OwnI w 0 u xs → OwnI w2 0 u xs := fun h => h.kept hg (Or.inr (Ne.symm (hm.ne_own h)))
  refine ⟨k, _, hkn, hm2, fun x => ?_⟩
  rw [getR_filter]
  by_cases e : x = y
  · rw [if_pos e, if_pos e]; trivial
  · rw [if_neg e, if_neg e]
    exact (hr x).imp fun _ _ a => keep a

theorem drop_start {w wr : World} {p b k : Nat} {S : CSt} {hints : List Int} (h : CMem wr p b { S with rows := dropR S.rows (hints.take k) }) (hs : Stay (ChF p b) w wr) {x : Int} (hx : hints[k]? = some x)
    {kk : Nat} {f : Int → Option Value} (hkn : (kk : Int) ≤ S.last) (hm : MapV wr b kk f) (hr : ∀ x, RowAt wr (f x) (getR (dropR S.rows (hints.take k)) x)) {w2 : World}
    (hm2 : MapV w2 b kk (fun z => if z = x then none else f z)) (hg : wr.grownBy w2 (some b)) : CMem w2 p b { S with rows := dropR S.rows (hints.take (k + 1)) } ∧ Stay (ChF p b) w w2 := by
  refine ⟨⟨(h.blk.grown hg (by intro e; injection e with e; exact h.ne e.symm)), ?_⟩, hs.grown hg (fun k e => by cases e; exact .inl (.inr rfl))⟩
  show MapC w2 b S.last (dropR S.rows (hints.take (k + 1)))
  rw [dropR_succ hx]
  exact MapC.drop hkn hm hr hm2 hg

set_option maxHeartbeats 4000000 in
theorem drop_c (w : World) (p b : Nat) (S : CSt) (A : Option Addr) (n c : Nat) (hints : List Int) (h : CMem w p b S) (hi : Inv11 S) (h' : IntSl w A n hints) (hO : 0 < n → Out (ChF p b) A) (hh : HintsIn hints) (hsm : n ≤ 1000) :
    Calls Tryz.prog 26 #[.pointer (some ⟨p, 0, none⟩), .slice A n c] w fun e w' => e = .returned (.int .i64 (if dropOk S.rows hints then 0 else 20)) ∧ ChNext w w' p b (if dropOk S.rows hints then { S with rows := dropR S.rows hints } else S) := by
  have hlast := hi.low
  have HI := Lib.hid hi
  have HLN := Lib.hid h'.1
  have HC := Lib.hid h
  have HS := Lib.hid h'
  have HD : Hid (dropOk S.rows hints = (!(decide ((dedL hints).length < hints.length)) && thereV S.rows hints)) := rfl
  have HCL := Lib.hid (compact_len hints)
  have hcl2 := Lib.compact_length_le (sortZ hints)
  rw [show (sortZ hints).length = n from (sortZ_perm hints).length_eq.trans HLN.out] at hcl2
  clear h h' hi
  by_cases hdup : (Lib.compact (sortZ hints)).length < n
  · have HR : Hid (dropOk S.rows hints = false) := by unfold Hid; rw [HD.out, ← HCL.out, HLN.out, decide_eq_true hdup]; rfl
    rw [HR.out, if_neg (by simp), if_neg (by simp)]
    go_enter Tryz.func26, Tryz.ntmps26
    go_wp2_with fail
    refine (values_c _ _ _ _).mono ?_
    rintro e w1 ⟨rfl, rfl⟩
    have HX0 := Lib.hid ((Ext.refl w).alloc (Obj.cells #[.slice A n c] 42))
    go_wp2_with fail
    refine (sortedI_c _ A n c hints _ (by omega) (Blk.new w _ _) (HS.out.ext HX0.out)).mono ?_
    rintro e w2 ⟨v2, rfl, hv2, hx2⟩
    have HV2 := Lib.hid hv2
    have HX2 := Lib.hid hx2
    clear hv2 hx2
    go_wp2_with fail
    refine (compactI_c _ _ _ _ HV2.out HX2.out (by have := (sortZ_perm hints).length_eq.trans HLN.out; omega)).mono ?_
    rintro e w3 ⟨⟨A3, c3, rfl⟩, hx3⟩
    have HX3 := Lib.hid (HX0.out.trans hx3)
    clear hx3
    generalize (Lib.compact (sortZ hints)).length = m3 at hdup hcl2
    go_wp2_with fail
    go_ret
    exact ⟨rfl, HC.out.ext HX3.out, Ext.stay HX3.out⟩
  · cases hth : thereV S.rows hints with
    | false =>
      have HR : Hid (dropOk S.rows hints = false) := by unfold Hid; rw [HD.out, hth, Bool.and_false]
      have HTH := Lib.hid hth
      rw [HR.out, if_neg (by simp), if_neg (by simp)]
      go_enter Tryz.func26, Tryz.ntmps26
      go_wp2_with fail
      refine (values_c _ _ _ _).mono ?_
      rintro e w1 ⟨rfl, rfl⟩
      have HX0 := Lib.hid ((Ext.refl w).alloc (Obj.cells #[.slice A n c] 42))
      go_wp2_with fail
      refine (sortedI_c _ A n c hints _ (by omega) (Blk.new w _ _) (HS.out.ext HX0.out)).mono ?_
      rintro e w2 ⟨v2, rfl, hv2, hx2⟩
      have HV2 := Lib.hid hv2
      have HX2 := Lib.hid hx2
      clear hv2 hx2
      go_wp2_with fail
      refine (compactI_c _ _ _ _ HV2.out HX2.out (by have := (sortZ_perm hints).length_eq.trans HLN.out; omega)).mono ?_
      rintro e w3 ⟨⟨A3, c3, rfl⟩, hx3⟩
      have HX3 := Lib.hid (HX0.out.trans hx3)
      clear hx3
      generalize (Lib.compact (sortZ hints)).length = m3 at hdup hcl2
      go_wp2_with fail
      refine (there_c _ p b S _ _ _ hints (HC.out.ext HX3.out) HI.out (HS.out.ext HX3.out) hh).mono ?_
      rintro e w4 ⟨rfl, hx4⟩
      rw [HTH.out]
      have HX4 := Lib.hid (HX3.out.trans hx4)
      clear hx4
      go_wp2_with fail
      go_ret
      exact ⟨rfl, HC.out.ext HX4.out, Ext.stay HX4.out⟩
    | true =>
      have HR : Hid (dropOk S.rows hints = true) := by unfold Hid; rw [HD.out, hth, ← HCL.out, HLN.out, decide_eq_false hdup]; rfl
      have HTH := Lib.hid hth
      rw [HR.out, if_pos rfl, if_pos rfl]
      go_enter Tryz.func26, Tryz.ntmps26
      go_wp2_with fail
      refine (values_c _ _ _ _).mono ?_
      rintro e w1 ⟨rfl, rfl⟩
      have HX0 := Lib.hid ((Ext.refl w).alloc (Obj.cells #[.slice A n c] 42))
      go_wp2_with fail
      refine (sortedI_c _ A n c hints _ (by omega) (Blk.new w _ _) (HS.out.ext HX0.out)).mono ?_
      rintro e w2 ⟨v2, rfl, hv2, hx2⟩
      have HV2 := Lib.hid hv2
      have HX2 := Lib.hid hx2
      clear hv2 hx2
      go_wp2_with fail
      refine (compactI_c _ _ _ _ HV2.out HX2.out (by have := (sortZ_perm hints).length_eq.trans HLN.out; omega)).mono ?_
      rintro e w3 ⟨⟨A3, c3, rfl⟩, hx3⟩
      have HX3 := Lib.hid (HX0.out.trans hx3)
      clear hx3
      generalize (Lib.compact (sortZ hints)).length = m3 at hdup hcl2
      go_wp2_with fail
      refine (there_c _ p b S _ _ _ hints (HC.out.ext HX3.out) HI.out (HS.out.ext HX3.out) hh).mono ?_
      rintro e w4 ⟨rfl, hx4⟩
      rw [HTH.out]
      have HX4 := Lib.hid (HX3.out.trans hx4)
      have HC4 := Lib.hid (HC.out.ext HX4.out)
      clear hx4 HX0 HX2 HV2
      go_wp2_with fail
      go_loopw [25] (fun i wr => ∃ k : Nat, k ≤ n ∧ i = .int .i64 k ∧ CMem wr p b { S with rows := dropR S.rows (hints.take k) } ∧ Stay (ChF p b) w wr) (fun i _ => n - (intOf i).toNat)
      case atStart =>
        refine ⟨0, Nat.zero_le _, rfl, ?_, Ext.stay HX4.out⟩
        have e : dropR S.rows (hints.take 0) = S.rows := by unfold dropR; rw [List.filter_eq_self]; intro a _; rfl
        rw [e]; exact HC4.out
      case round =>
        obtain ⟨k, hk, rfl, hc, hst⟩ := hrel
        have HCK := Lib.hid hc
        have HST := Lib.hid hst
        by_cases hlt : k < n
        · obtain ⟨ad, x, rfl, hx, hcx, hx1, hx2⟩ := (HS.out.stay HST.out (hO (by omega))).at_ hlt
          obtain ⟨kk, f, hkn, hmv, hrows⟩ := hc.map
          have HROWS := Lib.hid hrows
          have HMV := Lib.hid hmv
          have c0 := hc.blk.cell 0
          clear hrows hmv hc hst
          go_wp2_with (refine wpList_delI _ rfl _ _ rfl b kk f rfl HMV.out x rfl (by omega) ?_; intro w6 hm6 hg6; have HN := Lib.hid (drop_start HCK.out HST.out hx.out hkn HMV.out HROWS.out hm6 hg6); clear hm6 hg6)
          go_roundw
          case rel => exact ⟨k + 1, by omega, by go_num, HN.out.1, HN.out.2⟩
          case measure => simp [intOf]; omega
        · have hkn : k = n := by omega
          subst hkn
          clear hc hst
          go_wp2_with fail
          go_ret
          refine ⟨rfl, ?_, HST.out⟩
          have := HCK.out
          rw [List.take_of_length_le (by rw [HLN.out]; omega)] at this
          exact this
end Go.Proofs.YtdgflniahoidmaaGreat
