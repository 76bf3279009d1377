/- Layer 11 (lrat): Check. -/
import Derived.Test.YtdgflniahoidmaaLr18
set_option maxRecDepth 100000
namespace Go.Proofs.Ytdgflniahoidmaa
open Go.RowKit

/-- A step that is laid in four cells. -/
def StepAt (W : World) (a : Addr) (i : Nat) (z : Stp) (A : Option Addr) (n c : Nat) (A' : Option Addr) (n' c' : Nat) : Prop :=
  W.cell? (a.add (i * 4)) = some (.int .i64 z.kind) ∧ W.cell? ⟨(a.add (i * 4)).block, (a.add (i * 4)).off + 1, none⟩ = some (.int .i64 z.id) ∧
    W.cell? ⟨(a.add (i * 4)).block, (a.add (i * 4)).off + 2, none⟩ = some (.slice A n c) ∧ W.cell? ⟨(a.add (i * 4)).block, (a.add (i * 4)).off + 3, none⟩ = some (.slice A' n' c')
theorem StepAt.ext {W W' : World} {a : Addr} {i : Nat} {z : Stp} {A : Option Addr} {n c : Nat} {A' : Option Addr} {n' c' : Nat} (h : StepAt W a i z A n c A' n' c') (hx : Ext W W') : StepAt W' a i z A n c A' n' c' :=
  ⟨hx.cell h.1, hx.cell h.2.1, hx.cell h.2.2.1, hx.cell h.2.2.2⟩
def OpenedS (W : World) (a : Addr) (i : Nat) (z : Stp) : Prop := ∃ A n c A' n' c', StepAt W a i z A n c A' n' c' ∧ IntSl W A n z.lits ∧ IntSl W A' n' z.hints
/-- Steps that lie one behind the other. -/
def StepsL (W : World) (A : Option Addr) (n : Nat) (l : List Stp) : Prop :=
  l.length = n ∧ n ≤ 9223372036854775807 ∧ (0 < n → ∃ ad, A = some ad ∧ ∀ (i : Nat) (z : Stp), l[i]? = some z → OpenedS W ad i z)
theorem StepsL.ext {W W' : World} {A : Option Addr} {n : Nat} {l : List Stp} (h : StepsL W A n l) (hx : Ext W W') : StepsL W' A n l :=
  ⟨h.1, h.2.1, fun hn => let ⟨ad, e, hc⟩ := h.2.2 hn; ⟨ad, e, fun i z hz => let ⟨A, n, c, A', n', c', h1, h2, h3⟩ := hc i z hz; ⟨A, n, c, A', n', c', h1.ext hx, h2.ext hx, h3.ext hx⟩⟩⟩
theorem StepsL.at_ {W : World} {A : Option Addr} {n : Nat} {l : List Stp} (h : StepsL W A n l) {k : Nat} (hk : k < n) : ∃ ad z, A = some ad ∧ Hid (l[k]? = some z) ∧ OpenedS W ad k z := by
  obtain ⟨ad, e, hc⟩ := h.2.2 (by omega)
  have hkl : k < l.length := by rw [h.1]; exact hk
  exact ⟨ad, l[k], e, List.getElem?_eq_getElem hkl, hc k _ (List.getElem?_eq_getElem hkl)⟩
theorem IntSl.oldS {w : World} {A : Option Addr} {n : Nat} {xs : List Int} (h : IntSl w A n xs) (hn : 0 < n) : ∀ ad, A = some ad → ad.block < w.heap.size := fun ad e => by
  obtain ⟨ad', e', hc⟩ := h.2.2.2 hn
  rw [e] at e'
  cases e'
  have hl : 0 < xs.length := by have := h.1; omega
  have := World.block_lt_of_cell? _ _ (hc 0 _ (List.getElem?_eq_getElem hl))
  rwa [block_add] at this

/-! ### How the steps run -/
theorem stepS_len (S : CSt) (s : Stp) : (stepS S s).rows.length ≤ S.rows.length + 1 := by
  unfold stepS
  split
  · omega
  · split
    · exact Nat.le_trans (List.length_filter_le _ _) (Nat.le_succ _)
    · show (S.rows ++ [(s.id, s.lits)]).length ≤ _
      rw [List.length_append]; exact Nat.le_refl _
theorem newS_len (L : List (List Int)) : (newS L).rows.length = L.length := by have := congrArg List.length (newS_rows L); rwa [List.length_map] at this
/-- Where a run stands before step k: no error so far. -/
def RunAt (S0 : CSt) (l : List Stp) (k : Nat) (S : CSt) : Prop := runS S0 l 0 = runS S (l.drop k) k ∧ Inv11 S ∧ S.rows.length ≤ S0.rows.length + k
theorem RunAt.zero {S0 : CSt} (l : List Stp) (h : Inv11 S0) : RunAt S0 l 0 S0 := ⟨by rw [List.drop_zero], h, Nat.le_refl _⟩
theorem runS_cons {S : CSt} {l : List Stp} {k : Nat} {s : Stp} (hs : l[k]? = some s) : runS S (l.drop k) k = if stepE S s ≠ 0 then ((k : Int), stepE S s) else runS (stepS S s) (l.drop (k + 1)) (k + 1) := by
  rw [drop_cons hs]; rfl
theorem RunAt.err {S0 S : CSt} {l : List Stp} {k : Nat} {s : Stp} (h : RunAt S0 l k S) (hs : l[k]? = some s) (he : stepE S s ≠ 0) : runS S0 l 0 = ((k : Int), stepE S s) := by
  rw [h.1, runS_cons hs, if_pos he]
theorem RunAt.step {S0 S : CSt} {l : List Stp} {k : Nat} {s : Stp} (h : RunAt S0 l k S) (hs : l[k]? = some s) (he : stepE S s = 0) : RunAt S0 l (k + 1) (stepS S s) := by
  refine ⟨?_, h.2.1.step s, ?_⟩
  · rw [h.1, runS_cons hs, if_neg (by simpa using he)]
  · have := stepS_len S s
    have := h.2.2
    omega
theorem RunAt.last {S0 S : CSt} {l : List Stp} {k : Nat} (h : RunAt S0 l k S) (hk : l.length ≤ k) : runS S0 l 0 = ((k : Int), if S.done then 0 else 25) := by
  rw [h.1, List.drop_eq_nil_of_le hk]; rfl

def RetCheck (v : Int) (L : List (List Int)) (l : List Stp) (w : World) (e : Ending) (w' : World) : Prop := e = .returned (.tuple #[.int .i64 (checkL v L l).1, .int .i64 (checkL v L l).2]) ∧ Ext w w'

set_option maxHeartbeats 4000000 in
theorem check_c (v : Int) (A : Option Addr) (n c : Nat) (L : List (List Int)) (A' : Option Addr) (n' c' : Nat) (l : List Stp) (w : World) (h : RowsSl w A n L) (h' : StepsL w A' n' l) (hsm : n ≤ 10000) (hsm' : n' ≤ 10000) :
    Calls Try.prog 7 #[.agg #[.int .i64 v, .slice A n c], .slice A' n' c'] w (RetCheck v L l w) := by
  have HX0 := Lib.hid ((Ext.refl w).alloc (Obj.cells #[.int .i64 v, .slice A n c] 24))
  have HS := Lib.hid h
  have HS' := Lib.hid h'
  have HLN := Lib.hid h.1
  have HLN' := Lib.hid h'.1
  clear h h'
  obtain ⟨⟨f1, f2⟩, hf⟩ : ∃ r, fCheckV v L = r := ⟨_, rfl⟩
  have HF := Lib.hid hf
  by_cases h2 : f2 = 0
  · subst h2
    have hR : checkL v L l = runS (newS L) l 0 := by unfold checkL; rw [hf, if_neg (by simp)]
    have hinv : Inv11 (newS L) := newS_inv (v := v) (by rw [hf]) (by rw [HLN.out]; omega)
    have HR := Lib.hid hR
    have HINV := Lib.hid hinv
    clear hf hR hinv
    go_enter Try.func7, Try.ntmps7
    go_wp2_with fail
    refine (new_c v _ _ _ L _ (HS.out.ext HX0.out) (by omega)).mono ?_
    intro e w1 hret
    unfold RetNew at hret
    rw [HF.out, if_neg (by simp)] at hret
    obtain ⟨p, b, rfl, hc1, hp1, hb1, hx1⟩ := hret
    have HC1 := Lib.hid hc1
    have HX1 := Lib.hid (HX0.out.trans hx1)
    have HPB : Hid (w.heap.size ≤ p ∧ w.heap.size ≤ b) := by have := HX0.out.size_le; exact ⟨by omega, by omega⟩
    clear hc1 hx1 hp1 hb1
    go_wp2_with fail
    go_loopw [20] (fun i wr => ∃ (k : Nat) (S : CSt), k ≤ n' ∧ i = .int .i64 k ∧ CMem wr p b S ∧ RunAt (newS L) l k S ∧ Ext w wr) (fun i _ => n' - (intOf i).toNat)
    case atStart => exact ⟨0, _, Nat.zero_le _, rfl, HC1.out, RunAt.zero l HINV.out, HX1.out⟩
    case round =>
      obtain ⟨k, S, hk, rfl, hc, hrun, hx⟩ := hrel
      have HC := Lib.hid hc
      have HRUN := Lib.hid hrun
      have HX := Lib.hid hx
      clear hc hrun hx
      by_cases hlt : k < n'
      · obtain ⟨ad, s, rfl, hs, A1, n1, c1, A2, n2, c2, hat, hi1, hi2⟩ := HS'.out.at_ hlt
        obtain ⟨q0, q1, q2, q3⟩ := hat.ext HX.out
        have HSK := Lib.hid hs.out
        have HI1 := Lib.hid hi1
        have HI2 := Lib.hid hi2
        have HOUT : Hid (0 < n2 → Out (ChF p b) A2) := fun hn ad' e hF => by
          have := hi2.oldS hn ad' e
          have := HPB.out
          rcases hF with e | e <;> omega
        clear hi1 hi2 hat
        go_wp2_with fail
        have HXA : Hid (Ext wr (wr.alloc (Obj.cells #[.int .i64 s.kind, .int .i64 s.id, .slice A1 n1 c1, .slice A2 n2 c2] 42))) := (Ext.refl wr).alloc _
        refine (step_c p b S s _ _ _ _ _ _ _ (HC.out.ext HXA.out) HRUN.out.2.1 (by have h1 := HRUN.out.2.2; rw [newS_len, HLN.out] at h1; omega) (HI1.out.ext (HX.out.trans HXA.out)) (HI2.out.ext (HX.out.trans HXA.out)) HOUT.out).mono ?_
        rintro e w4 ⟨rfl, hm4, hst4⟩
        have HM4 := Lib.hid hm4
        have HX4 : Hid (Ext w w4) := (HX.out.trans HXA.out).then_stay hst4 (fun j e => by have := HPB.out; rcases e with e | e <;> subst e <;> omega)
        clear hm4 hst4 q0 q1 q2 q3
        obtain ⟨E, hE⟩ : ∃ E, stepE S s = E := ⟨_, rfl⟩
        have HE := Lib.hid hE
        rw [hE]
        clear hE
        by_cases hz : E = 0
        · subst hz
          go_wp2_with fail
          go_roundw
          case rel => exact ⟨k + 1, stepS S s, by omega, by go_num, HM4.out, HRUN.out.step HSK.out HE.out, HX4.out⟩
          case measure => simp [intOf]; omega
        · have hb : (E == 0) = false := by simpa using hz
          have HRR : Hid (checkL v L l = ((k : Int), E)) := by
            unfold Hid
            rw [HR.out, HRUN.out.err HSK.out (by rw [HE.out]; exact hz), HE.out]
          go_wp2_with fail
          go_ret2
          exact ⟨by rw [HRR.out]; rfl, HX4.out⟩
      · have hkn : k = n' := by omega
        subst hkn
        have HRR : Hid (checkL v L l = ((k : Int), if S.done then 0 else 25)) := by unfold Hid; rw [HR.out, HRUN.out.last (by rw [HLN'.out]; exact Nat.le_refl _)]
        go_wp2_with fail
        refine (done_c _ p b S HC.out).mono ?_
        rintro e w5 ⟨rfl, rfl⟩
        obtain ⟨d, hd⟩ : ∃ d, S.done = d := ⟨_, rfl⟩
        rw [hd] at HRR ⊢
        clear hd
        cases d
        · go_wp2_with fail
          go_ret2
          exact ⟨by rw [HRR.out]; rfl, HX.out⟩
        · go_wp2_with fail
          go_ret2
          exact ⟨by rw [HRR.out]; rfl, HX.out⟩
  · have hb : (f2 == 0) = false := by simpa using h2
    have HR : Hid (checkL v L l = (-1, f2)) := by unfold Hid checkL; rw [hf, if_pos h2]
    clear hf
    go_enter Try.func7, Try.ntmps7
    go_wp2_with fail
    refine (new_c v _ _ _ L _ (HS.out.ext HX0.out) (by omega)).mono ?_
    intro e w1 hret
    unfold RetNew at hret
    rw [HF.out, if_pos h2] at hret
    obtain ⟨rfl, hx1⟩ := hret
    have HX1 := Lib.hid (HX0.out.trans hx1)
    clear hx1
    go_wp2_with fail
    go_ret2
    exact ⟨by rw [HR.out]; rfl, HX1.out⟩
end Go.Proofs.Ytdgflniahoidmaa
