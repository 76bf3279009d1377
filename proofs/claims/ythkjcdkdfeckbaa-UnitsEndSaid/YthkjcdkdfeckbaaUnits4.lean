/- Layer 7 (units): Propagate. -/
import Derived.Test.YthkjcdkdfeckbaaUnits3
import Derived.Test.YthkjcdkdfeckbaaProp
import Derived.Test.YthkjcdkdfeckbaaClone
namespace Go.Proofs.Ythkjcdkdfeckbaa
open Go.RowKit Go.Maps

/-- The length of a slice value. -/
def slen : Value → Nat | .slice _ n _ => n | _ => 0
theorem OwnI.slen {w : World} {base : Nat} {v : Value} {xs : List Int} (h : OwnI w base v xs) : slen v = xs.length := by
  rcases h.2 with ⟨rfl, h1⟩ | ⟨g, cap, cur, rfl, _⟩
  · exact h1.symm
  · rfl

/-- What Propagate hands back. -/
def RetProp (L : List (List Int)) (l : List Int) (w : World) (e : Ending) (w' : World) : Prop :=
  ∃ v u k, e = .returned (.tuple #[v, u, .int .i64 k]) ∧ OwnI w' w.heap.size v (propV L (mostN L + 1) l []).1 ∧ OwnI w' w.heap.size u (propV L (mostN L + 1) l []).2.1 ∧ k = (propV L (mostN L + 1) l []).2.2 ∧ Ext w w'

theorem OwnI.less {w : World} {a b : Nat} {v : Value} {xs : List Int} (h : OwnI w b v xs) (hab : a ≤ b) : OwnI w a v xs := by
  refine ⟨h.1, ?_⟩
  rcases h.2 with hn | ⟨g, cap, cur, rfl, hb, rest⟩
  · exact .inl hn
  · exact .inr ⟨g, cap, cur, rfl, by omega, rest⟩

/-- Two slices that lie apart. -/
def Apart (a b : Value) : Prop := a.ownBlock = none ∨ b.ownBlock = none ∨ a.ownBlock ≠ b.ownBlock
theorem Apart.symm {a b : Value} (h : Apart a b) : Apart b a := by
  rcases h with h | h | h
  · exact Or.inr (Or.inl h)
  · exact Or.inl h
  · exact Or.inr (Or.inr (Ne.symm h))
theorem Apart.kept {a b : Value} (h : Apart a b) : a.ownBlock = none ∨ a.ownBlock ≠ b.ownBlock := by
  rcases h with h | h | h
  · exact Or.inl h
  · cases e : a.ownBlock with
    | none => exact Or.inl rfl
    | some k => exact Or.inr (by rw [h]; simp)
  · exact Or.inr h
theorem Apart.grow {a a' b : Value} {m : Nat} (h : Apart a b) (hl : a'.ownBlock = a.ownBlock ∨ a'.ownBlock = some m) (hb : ∀ k, b.ownBlock = some k → k < m) : Apart a' b := by
  rcases hl with hl | hl
  · unfold Apart; rw [hl]; exact h
  · cases e : b.ownBlock with
    | none => exact Or.inr (Or.inl e)
    | some k => exact Or.inr (Or.inr (by rw [hl, e]; have := hb k e; simp; omega))
theorem OwnI.row_ne {w : World} {base b : Nat} {v : Value} {xs : List Int} (h : OwnI w base v xs) (hb : b < base) : some b ≠ v.ownBlock := fun e => by
  have := h.blk b e.symm
  omega
theorem OwnI.map_ne {w : World} {base b : Nat} {v : Value} {xs : List Int} (h : OwnI w base v xs) (hb : b < base) : v.ownBlock = none ∨ v.ownBlock ≠ some b := Or.inr fun e => h.row_ne hb e.symm

theorem prop_fail {L : List (List Int)} {l b : List Int} (h : 0 ≤ failsV l L) : propV L (mostN L + 1) l b = (l, b, failsV l L) := by
  rw [propV, if_pos h]
theorem prop_stop {L : List (List Int)} {l b : List Int} (h : ¬ 0 ≤ failsV l L) (hn : nextU l L < 0) : propV L (mostN L + 1) l b = (l, b, -1) := by
  rw [propV, if_neg h, if_pos hn]
theorem prop_step {L : List (List Int)} {l b : List Int} (h : ¬ 0 ≤ failsV l L) (hn : ¬ nextU l L < 0) : propV L (mostN L + 1) l b = propV L (mostN L + 1) (l ++ [nextS l L]) (b ++ [nextU l L]) := by
  have h1 := open_step hn
  have h2 := openN_most L l
  rw [propV, if_neg h, if_neg hn]
  exact propV_fuel L _ _ _ _ (by omega) (by omega)
theorem next_bd {l : List Int} {L : List (List Int)} (hn : ¬ nextU l L < 0) : -100000 ≤ nextS l L ∧ nextS l L ≤ 100000 := by
  obtain ⟨c, _, hu, hs⟩ := next_mem hn
  rw [hs, unitU, hu, if_pos rfl]
  unfold unitB at hu
  simp only [Bool.and_eq_true, decide_eq_true_eq] at hu
  exact (varV_pos (unit_facts hu.2).1).2

set_option maxHeartbeats 4000000 in
theorem prop_c (A : Option Addr) (n c : Nat) (L : List (List Int)) (A' : Option Addr) (n' c' : Nat) (l : List Int) (w : World) (h : RowsSl w A n L) (h' : IntSl w A' n' l) (hsm : n' ≤ 1000000000) (hM : mostN L ≤ 1000000000) :
    Calls Try.prog 14 #[.slice A n c, .slice A' n' c'] w (RetProp L l w) := by
  have hn := h.len
  have hll := h'.1
  have hm := openN_most L l
  have HLL := Lib.hid hll
  have HMO := Lib.hid hm
  clear hll hm
  go_enter Try.func14, Try.ntmps14
  go_wp2_with fail
  refine (begin_c _ _ _ l _ h' (by omega)).mono ?_
  rintro e w1 ⟨g, b, rfl, hB, hC, hg1, hg2, hg3, hx⟩
  go_wp2_with fail
  refine (clone_c _ _ _ l _ (h'.ext hx) (by omega)).mono ?_
  rintro e w2 ⟨v, rfl, hv, hx2⟩
  have hgl := hB.lt
  have hbl := hC.lt
  have HB := Lib.hid hB
  have HC := Lib.hid hC
  have HX := Lib.hid (hx.trans hx2)
  have HX1 := Lib.hid hx
  have HX2 := Lib.hid hx2
  have HV := Lib.hid hv
  clear hB hC hx hx2 hv
  go_wp2_with fail
  go_loopw [4, 5, 6] (fun o u z wr => ∃ (lc bc : List Int), z = .int .i64 0 ∧ propV L (mostN L + 1) l [] = propV L (mostN L + 1) lc bc ∧ (lc.length : Int) + openN L lc ≤ l.length + mostN L ∧ bc.length ≤ lc.length ∧ OwnI wr w1.heap.size o lc ∧ OwnI wr w1.heap.size u bc ∧ Apart o u ∧ Cnt wr b lc.length (cntV lc) ∧ Blk wr g 69 #[.map (some b)] ∧ w1.heap.size ≤ wr.heap.size ∧ Ext w wr) (fun o _ _ _ => l.length + mostN L + 1 - slen o)
  case atStart =>
    exact ⟨l, [], rfl, rfl, by have := HMO.out; omega, Nat.zero_le _, HV.out, OwnI.nil _ _, Or.inr (Or.inl rfl), HC.out.ext HX2.out, HB.out.ext HX2.out, HX2.out.size_le, HX.out⟩
  case round =>
    obtain ⟨lc, bc, rfl, hp, hlen, hbc, ho, hu, hd, hc, hb, hsz, hx⟩ := hrel
    have cb := hb.cell 0
    have HP := Lib.hid hp
    have HLEN := Lib.hid hlen
    have HO := Lib.hid ho
    have HU := Lib.hid hu
    have HD := Lib.hid hd
    have HC := Lib.hid hc
    have HB := Lib.hid hb
    have HXR := Lib.hid hx
    have hop := openN_pos L lc
    have hlc : lc.length ≤ 2000000000 := by have := HLL.out; omega
    clear hp hlen ho hu hd hc hb hx hop
    go_wp2_with fail
    refine (step_c _ _ _ lc _ _ _ L _ cb HC.out (h.ext HXR.out)).mono ?_
    rintro e w' ⟨f, un, s, rfl, hf, hus, rfl⟩
    by_cases hf0 : f < 0
    · obtain ⟨hun, hs⟩ := hus hf0
      by_cases hu0 : un < 0
      · have HR := Lib.hid (prop_stop (L := L) (l := lc) (b := bc) (by rw [← hf]; omega) (by rw [← hun]; exact hu0))
        clear hf hus hun hs
        go_wp2
        go_ret3
        refine ⟨_, _, _, rfl, ?_, ?_, ?_, HXR.out⟩
        · rw [HP.out, HR.out]; exact HO.out.less HX1.out.size_le
        · rw [HP.out, HR.out]; exact HU.out.less HX1.out.size_le
        · rw [HP.out, HR.out]
      · have hu1 : ¬ nextU lc L < 0 := by rw [← hun]; exact hu0
        have HR := Lib.hid (prop_step (L := L) (l := lc) (b := bc) (by rw [← hf]; omega) hu1)
        have HOS := Lib.hid (open_step hu1)
        have hbd := next_bd hu1
        have hub := (idxP_bd (unitB lc) L).2
        have hub' : nextU lc L < (n : Int) := by have := h.1; rw [← this]; exact hub
        rw [← hs] at hbd
        rw [← hun] at hub'
        obtain ⟨hbd1, hbd2⟩ := hbd
        have HUN := Lib.hid hun
        have HS := Lib.hid hs
        have hcb := cntV_bd lc s
        obtain ⟨hcb1, hcb2⟩ := hcb
        have hlen2 := HLEN.out
        have hst2 := HOS.out
        have hpos2 := openN_pos L (lc ++ [nextS lc L])
        have hll2 := HLL.out
        have hgrow : lc.length + 1 ≤ l.length + mostN L := by omega
        clear hf hus hun hs hub hu1 hlen2 hst2 hpos2 hll2
        go_wp2_with (first
          | (at_lookup; refine wpList_look _ rfl _ _ rfl _ _ _ rfl HC.out _ rfl (by omega) ?_)
          | (at_mapUpdate; refine wpList_setm _ rfl _ _ _ rfl _ _ _ rfl HC.out (by omega) _ _ rfl rfl (by omega) (by omega) ?_; intro w3 hc3 hg3; rw [cntV_snoc] at hc3; have HC3 := Lib.hid hc3; have HG3 := Lib.hid hg3; have hsz3 : w1.heap.size ≤ w3.heap.size := (by have := hg3.size; omega); have HO3 := Lib.hid (HO.out.kept hg3 (HO.out.map_ne hbl)); have HU3 := Lib.hid (HU.out.kept hg3 (HU.out.map_ne hbl)); clear hc3 hg3)
          | (at_builtin; refine append1 _ rfl (.tmp 40) (.tmp 42) rfl w1.heap.size _ _ rfl (HO3.out.alloc _) _ _ _ rfl (cell_one _ _ _) (by omega) (by omega) (by simp; omega) ?_; intro v5 w5 ho5 hg5 hloc; have HO5 := Lib.hid ho5; have HG5 := Lib.hid hg5; have hsz5 : w1.heap.size ≤ w5.heap.size := (by have := hg5.size; simp at this; omega); have HU5 := Lib.hid ((HU3.out.alloc _).kept hg5 HD.out.symm.kept); have HD5 := Lib.hid (HD.out.grow hloc (fun k e => by have := HU3.out.blk k e; simp; omega)); clear ho5 hg5 hloc)
          | (at_builtin; refine append1 _ rfl (.tmp 44) (.tmp 46) rfl w1.heap.size _ _ rfl (HU5.out.alloc _) _ _ _ rfl (cell_one _ _ _) (by omega) (by omega) (by simp; omega) ?_; intro v6 w6 ho6 hg6 hloc; have HU6 := Lib.hid ho6; have HG6 := Lib.hid hg6; have HO6 := Lib.hid ((HO5.out.alloc _).kept hg6 HD5.out.kept); have HD6 := Lib.hid (HD5.out.symm.grow hloc (fun k e => by have := HO5.out.blk k e; simp; omega)); clear ho6 hg6 hloc))
        go_roundw
        case measure =>
          have e1 := HO.out.slen
          have e2 := HO6.out.slen
          rw [List.length_append] at e2
          simp at e2
          rw [e1, e2]
          omega
        case rel =>
          have hb3 := HB.out.keep (HG3.out.block g HB.out.lt (by simp; omega))
          have hb5 := (hb3.alloc (Obj.cells #[.int .i64 s] 3)).keep (HG5.out.block g (hb3.alloc _).lt (HO.out.row_ne hgl))
          have hb6 := (hb5.alloc (Obj.cells #[.int .i64 un] 3)).keep (HG6.out.block g (hb5.alloc _).lt (HU.out.row_ne hgl))
          have hc5 := (HC3.out.ext ((Ext.refl _).alloc (Obj.cells #[.int .i64 s] 3))).grown HG5.out (HO.out.row_ne hbl)
          have hc6 := (hc5.ext ((Ext.refl _).alloc (Obj.cells #[.int .i64 un] 3))).grown HG6.out (HU.out.row_ne hbl)
          have hx3 := HXR.out.grown HG3.out (fun j hj => by cases hj; exact hg2)
          have hx5 := (hx3.alloc (Obj.cells #[.int .i64 s] 3)).grown HG5.out (fun j hj => by have := HO.out.blk j hj; have := HX1.out.size_le; omega)
          have hx6 := (hx5.alloc (Obj.cells #[.int .i64 un] 3)).grown HG6.out (fun j hj => by have := HU.out.blk j hj; have := HX1.out.size_le; omega)
          refine ⟨lc ++ [s], bc ++ [un], rfl, ?_, ?_, by simp; omega, HO6.out, HU6.out, HD6.out.symm, ?_, hb6, by have := HG6.out.size; simp at this; omega, hx6⟩
          · rw [HP.out, HR.out, ← HUN.out, ← HS.out]
          · have e1 := HLEN.out
            have e2 := HOS.out
            rw [← HS.out] at e2
            simp
            omega
          · rw [List.length_append]; exact hc6
    · have HR := Lib.hid (prop_fail (L := L) (l := lc) (b := bc) (by rw [← hf]; omega))
      have HF := Lib.hid hf
      clear hf hus
      go_wp2
      go_ret3
      refine ⟨_, _, _, rfl, ?_, ?_, ?_, HXR.out⟩
      · rw [HP.out, HR.out]; exact HO.out.less HX1.out.size_le
      · rw [HP.out, HR.out]; exact HU.out.less HX1.out.size_le
      · rw [HP.out, HR.out]; exact HF.out
end Go.Proofs.Ythkjcdkdfeckbaa
