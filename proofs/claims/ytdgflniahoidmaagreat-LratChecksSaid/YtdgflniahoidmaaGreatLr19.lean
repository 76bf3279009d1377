/- Layer 11 (lrat): Check. -/
import Derived.Test.YtdgflniahoidmaaGreatLr17
import Derived.Test.YtdgflniahoidmaaGreatCnf3
set_option maxRecDepth 100000
namespace Go.Proofs.YtdgflniahoidmaaGreat
open Go.RowKit Go.Maps

/-- What New hands back. -/
def RetNew (v : Int) (L : List (List Int)) (w : World) (e : Ending) (w' : World) : Prop :=
  if (fCheckV v L).2 ≠ 0 then e = .returned (.tuple #[.pointer none, .int .i64 (fCheckV v L).2]) ∧ Ext w w'
  else ∃ p b, e = .returned (.tuple #[.pointer (some ⟨p, 0, none⟩), .int .i64 0]) ∧ CMem w' p b (newS L) ∧ w.heap.size ≤ p ∧ w.heap.size ≤ b ∧ Ext w w'
theorem newS_take {L : List (List Int)} {k : Nat} {l : List Int} (h : L[k]? = some l) : newS (L.take (k + 1)) = putR (newS (L.take k)) ((newS (L.take k)).last + 1) l := by rw [take_succ_of h, newS_snoc]

theorem newS_inv2 {L : List (List Int)} (hn : L.length ≤ 1000000) (key : ∀ c ∈ L, c.length ≤ 1000 ∧ ∀ x ∈ c, -100000 ≤ x ∧ x ≤ 100000) : Inv11 (newS L) := by
  revert hn key
  refine snoc_ind11 (P := fun L => L.length ≤ 1000000 → (∀ c ∈ L, c.length ≤ 1000 ∧ ∀ x ∈ c, -100000 ≤ x ∧ x ≤ 100000) → Inv11 (newS L)) ?_ ?_ L
  · exact fun _ _ => ⟨List.Pairwise.nil, by decide, fun p hp => (by cases hp), fun p hp => (by cases hp)⟩
  · intro L c ih hn hc
    have hlast := newS_last L
    rw [List.length_append] at hn
    simp at hn
    obtain ⟨h1, h2⟩ := hc c (by simp)
    rw [newS_snoc]
    exact (ih (by omega) (fun d hd => hc d (List.mem_append_left _ hd))).put (by omega) (by omega) h1 h2

set_option maxHeartbeats 4000000 in
theorem new_c (v : Int) (A : Option Addr) (n c : Nat) (L : List (List Int)) (w : World) (h : RowsSl w A n L) (hsm : n ≤ 1000000) :
    Calls Tryz.prog 8 #[.agg #[.int .i64 v, .slice A n c]] w (RetNew v L w) := by
  have HX0 := Lib.hid ((Ext.refl w).alloc (Obj.cells #[.int .i64 v, .slice A n c] 24))
  have HB0 := Lib.hid (Blk.new w 24 #[.int .i64 v, .slice A n c])
  have HS := Lib.hid h
  have HLN := Lib.hid h.1
  clear h
  obtain ⟨⟨f1, f2⟩, hf⟩ : ∃ r, fCheckV v L = r := ⟨_, rfl⟩
  have HF := Lib.hid hf
  have b1 := HB0.out.cell 1
  by_cases h2 : f2 = 0
  · subst h2
    obtain ⟨hv, hcl⟩ := fCheckV_ok (v := v) (L := L) (by rw [hf])
    have hkey : ∀ c ∈ L, c.length ≤ 1000 ∧ ∀ x ∈ c, -100000 ≤ x ∧ x ≤ 100000 := fun c hm => by
      obtain ⟨h1, h2⟩ := ccheck_lits hv.2 (hcl c hm).1
      exact ⟨h1, fun x hx => (h2 x hx).1⟩
    have hinv : ∀ k, Inv11 (newS (L.take k)) := fun k => newS_inv2 (by rw [List.length_take, HLN.out]; omega) (fun c hc => hkey c (List.mem_of_mem_take hc))
    have HINV := Lib.hid hinv
    have HKEY := Lib.hid hkey
    have hmm := fun (n : Int) (W : World) => run_makeMap_hint (P := Tryz.prog) 56 3 42 .i64 n Tryz.underlying56 W
    clear hf hv hcl hkey hinv b1
    go_enter Tryz.func8, Tryz.ntmps8
    go_wp2_with fail
    refine (cnfCheck_c v _ _ _ L _ (HS.out.ext HX0.out)).mono ?_
    rintro e w1 ⟨rfl, hx1⟩
    rw [HF.out]
    have HX1 := Lib.hid (HX0.out.trans hx1)
    have HB1 := Lib.hid (HB0.out.ext hx1)
    have b1 := HB1.out.cell 1
    have b1' := fun o1 o2 => (HB1.out.ext (((Ext.refl w1).alloc o1).alloc o2)).cell 1
    clear hx1
    go_wp2_with fail
    clear b1 b1' hmm
    go_loopw [26] (fun i wr => ∃ k : Nat, k ≤ n ∧ i = .int .i64 k ∧ CMem wr (w1.heap.size + 1) w1.heap.size (newS (L.take k)) ∧ Ext w1 wr) (fun i _ => n - (intOf i).toNat)
    case atStart =>
      refine ⟨0, Nat.zero_le _, rfl, ⟨Blk.newg2 _ _ (by simp), ⟨0, fun _ => none, Int.le_refl _, (MapV.made w1).ext ((Ext.refl _).alloc _), fun _ => trivial⟩⟩, ((Ext.refl _).alloc _).alloc _⟩
    case round =>
      obtain ⟨k, hk, rfl, hc, hx⟩ := hrel
      have HC := Lib.hid hc
      have HX := Lib.hid hx
      have HXW := Lib.hid (HX1.out.trans hx)
      have d0 := hc.blk.cell 0
      have d1 := hc.blk.cell 1
      have hl0 : (newS (L.take k)).last = k := by rw [newS_last, List.length_take, HLN.out]; congr 1; omega
      rw [hl0] at d1
      have HL0 := Lib.hid hl0
      clear hc hx hl0
      by_cases hlt : k < n
      · obtain ⟨ad, ys, A5, n5, c5, rfl, hy, hcy, hrow⟩ := (HS.out.ext HXW.out).at_ hlt
        have hyk := HKEY.out ys (List.mem_of_getElem? hy.out)
        have hn5 : n5 ≤ 1000 := by have := hrow.1; omega
        have HY := Lib.hid hy.out
        have HROW := Lib.hid hrow
        have hk9 : (k : Int) + 1 ≤ 9223372036854775807 := by omega
        clear hyk hrow
        go_wp2_with fail
        refine (put_c _ _ _ (newS (L.take k)) ((k : Int) + 1) _ _ _ ys HC.out (HINV.out k) HROW.out (by rw [HL0.out]; omega) (by omega) hn5).mono ?_
        rintro e w4 ⟨rfl, hm4, hst4⟩
        have HM4 : Hid (CMem w4 (w1.heap.size + 1) w1.heap.size (newS (L.take (k + 1)))) := by
          unfold Hid
          rw [newS_take HY.out, HL0.out]; exact hm4
        have HX4 : Hid (Ext w1 w4) := HX.out.then_stay hst4 (fun j e => by rcases e with e | e <;> subst e <;> omega)
        clear hm4 hst4
        go_wp2_with fail
        go_roundw
        case rel => exact ⟨k + 1, by omega, by go_num, HM4.out, HX4.out⟩
        case measure => simp [intOf]; omega
      · have hkn : k = n := by omega
        subst hkn
        have HN : Hid (newS (L.take k) = newS L) := by unfold Hid; rw [List.take_of_length_le (by rw [HLN.out]; exact Nat.le_refl _)]
        go_wp2_with fail
        go_ret2
        unfold RetNew
        rw [HF.out, if_neg (by simp)]
        refine ⟨w1.heap.size + 1, w1.heap.size, rfl, by rw [← HN.out]; exact HC.out, ?_, ?_, HXW.out⟩
        · have := HX1.out.size_le; omega
        · exact HX1.out.size_le
  · have hb : (f2 == 0) = false := by simpa using h2
    clear hf b1
    go_enter Tryz.func8, Tryz.ntmps8
    go_wp2_with fail
    refine (cnfCheck_c v _ _ _ L _ (HS.out.ext HX0.out)).mono ?_
    rintro e w1 ⟨rfl, hx1⟩
    rw [HF.out]
    have HX1 := Lib.hid (HX0.out.trans hx1)
    clear hx1
    go_wp2_with fail
    go_ret2
    unfold RetNew
    rw [HF.out, if_pos h2]
    exact ⟨rfl, HX1.out⟩
end Go.Proofs.YtdgflniahoidmaaGreat

namespace Go.Proofs.YtdgflniahoidmaaGreat
open Go.RowKit

/-- A step that is laid in four cells. -/
def StepAt (W : World) (a : Addr) (i : Nat) (z : Stp) (A : Option Addr) (n c : Nat) (A' : Option Addr) (n' c' : Nat) : Prop :=
  W.cell? (a.add (i * 4)) = some (.int .i64 z.kind) ∧ W.cell? ⟨(a.add (i * 4)).block, (a.add (i * 4)).off + 1, none⟩ = some (.int .i64 z.id) ∧
    W.cell? ⟨(a.add (i * 4)).block, (a.add (i * 4)).off + 2, none⟩ = some (.slice A n c) ∧ W.cell? ⟨(a.add (i * 4)).block, (a.add (i * 4)).off + 3, none⟩ = some (.slice A' n' c')
theorem StepAt.ext {W W' : World} {a : Addr} {i : Nat} {z : Stp} {A : Option Addr} {n c : Nat} {A' : Option Addr} {n' c' : Nat} (h : StepAt W a i z A n c A' n' c') (hx : Ext W W') : StepAt W' a i z A n c A' n' c' :=
  ⟨hx.cell h.1, hx.cell h.2.1, hx.cell h.2.2.1, hx.cell h.2.2.2⟩
def OpenedS (W : World) (a : Addr) (i : Nat) (z : Stp) : Prop := ∃ A n c A' n' c', StepAt W a i z A n c A' n' c' ∧ IntSl W A n z.lits ∧ IntSl W A' n' z.hints
/-- Steps that lie one behind the other. -/
def StepsL (W : World) (A : Option Addr) (n : Nat) (l : List Stp) : Prop :=
  l.length = n ∧ n ≤ 9223372036854775807 ∧ (0 < n → ∃ ad, A = some ad ∧ ∀ (i : Nat) (z : Stp), l[i]? = some z → OpenedS W ad i z)
theorem StepsL.ext {W W' : World} {A : Option Addr} {n : Nat} {l : List Stp} (h : StepsL W A n l) (hx : Ext W W') : StepsL W' A n l :=
  ⟨h.1, h.2.1, fun hn => let ⟨ad, e, hc⟩ := h.2.2 hn; ⟨ad, e, fun i z hz => let ⟨A, n, c, A', n', c', h1, h2, h3⟩ := hc i z hz; ⟨A, n, c, A', n', c', h1.ext hx, h2.ext hx, h3.ext hx⟩⟩⟩
theorem StepsL.at_ {W : World} {A : Option Addr} {n : Nat} {l : List Stp} (h : StepsL W A n l) {k : Nat} (hk : k < n) : ∃ ad z, A = some ad ∧ Hid (l[k]? = some z) ∧ OpenedS W ad k z := by
  obtain ⟨ad, e, hc⟩ := h.2.2 (by omega)
  have hkl : k < l.length := by rw [h.1]; exact hk
  exact ⟨ad, l[k], e, List.getElem?_eq_getElem hkl, hc k _ (List.getElem?_eq_getElem hkl)⟩
theorem IntSl.oldS {w : World} {A : Option Addr} {n : Nat} {xs : List Int} (h : IntSl w A n xs) (hn : 0 < n) : ∀ ad, A = some ad → ad.block < w.heap.size := fun ad e => by
  obtain ⟨ad', e', hc⟩ := h.2.2.2 hn
  rw [e] at e'
  cases e'
  have hl : 0 < xs.length := by have := h.1; omega
  have := World.block_lt_of_cell? _ _ (hc 0 _ (List.getElem?_eq_getElem hl))
  rwa [block_add] at this

/-! ### How the steps run -/
theorem stepS_len (S : CSt) (s : Stp) : (stepS S s).rows.length ≤ S.rows.length + 1 := by
  unfold stepS
  split
  · omega
  · split
    · exact Nat.le_trans (List.length_filter_le _ _) (Nat.le_succ _)
    · show (S.rows ++ [(s.id, s.lits)]).length ≤ _
      rw [List.length_append]; exact Nat.le_refl _
theorem newS_len (L : List (List Int)) : (newS L).rows.length = L.length := by have := congrArg List.length (newS_rows L); rwa [List.length_map] at this
/-- Where a run stands before step k: no error so far. -/
def RunAt (S0 : CSt) (l : List Stp) (k : Nat) (S : CSt) : Prop := runS S0 l 0 = runS S (l.drop k) k ∧ Inv11 S ∧ S.rows.length ≤ S0.rows.length + k
theorem RunAt.zero {S0 : CSt} (l : List Stp) (h : Inv11 S0) : RunAt S0 l 0 S0 := ⟨by rw [List.drop_zero], h, Nat.le_refl _⟩
theorem runS_cons {S : CSt} {l : List Stp} {k : Nat} {s : Stp} (hs : l[k]? = some s) : runS S (l.drop k) k = if stepE S s ≠ 0 then ((k : Int), stepE S s) else runS (stepS S s) (l.drop (k + 1)) (k + 1) := by
  rw [drop_cons hs]; rfl
theorem RunAt.err {S0 S : CSt} {l : List Stp} {k : Nat} {s : Stp} (h : RunAt S0 l k S) (hs : l[k]? = some s) (he : stepE S s ≠ 0) : runS S0 l 0 = ((k : Int), stepE S s) := by
  rw [h.1, runS_cons hs, if_pos he]
theorem RunAt.step {S0 S : CSt} {l : List Stp} {k : Nat} {s : Stp} (h : RunAt S0 l k S) (hs : l[k]? = some s) (he : stepE S s = 0) : RunAt S0 l (k + 1) (stepS S s) := by
  refine ⟨?_, h.2.1.step s, ?_⟩
  · rw [h.1, runS_cons hs, if_neg (by simpa using he)]
  · have := stepS_len S s
    have := h.2.2
    omega
theorem RunAt.last {S0 S : CSt} {l : List Stp} {k : Nat} (h : RunAt S0 l k S) (hk : l.length ≤ k) : runS S0 l 0 = ((k : Int), if S.done then 0 else 25) := by
  rw [h.1, List.drop_eq_nil_of_le hk]; rfl

def RetCheck (v : Int) (L : List (List Int)) (l : List Stp) (w : World) (e : Ending) (w' : World) : Prop := e = .returned (.tuple #[.int .i64 (checkL v L l).1, .int .i64 (checkL v L l).2]) ∧ Ext w w'

set_option maxHeartbeats 4000000 in
theorem check_c (v : Int) (A : Option Addr) (n c : Nat) (L : List (List Int)) (A' : Option Addr) (n' c' : Nat) (l : List Stp) (w : World) (h : RowsSl w A n L) (h' : StepsL w A' n' l) (hsm : n ≤ 10000) (hsm' : n' ≤ 10000) :
    Calls Tryz.prog 6 #[.agg #[.int .i64 v, .slice A n c], .slice A' n' c'] w (RetCheck v L l w) := by
  have HX0 := Lib.hid ((Ext.refl w).alloc (Obj.cells #[.int .i64 v, .slice A n c] 24))
  have HS := Lib.hid h
  have HS' := Lib.hid h'
  have HLN := Lib.hid h.1
  have HLN' := Lib.hid h'.1
  clear h h'
  obtain ⟨⟨f1, f2⟩, hf⟩ : ∃ r, fCheckV v L = r := ⟨_, rfl⟩
  have HF := Lib.hid hf
  by_cases h2 : f2 = 0
  · subst h2
    have hR : checkL v L l = runS (newS L) l 0 := by unfold checkL; rw [hf, if_neg (by simp)]
    have hinv : Inv11 (newS L) := newS_inv (v := v) (by rw [hf]) (by rw [HLN.out]; omega)
    have HR := Lib.hid hR
    have HINV := Lib.hid hinv
    clear hf hR hinv
    go_enter Tryz.func6, Tryz.ntmps6
    go_wp2_with fail
    refine (new_c v _ _ _ L _ (HS.out.ext HX0.out) (by omega)).mono ?_
    intro e w1 hret
    unfold RetNew at hret
    rw [HF.out, if_neg (by simp)] at hret
    obtain ⟨p, b, rfl, hc1, hp1, hb1, hx1⟩ := hret
    have HC1 := Lib.hid hc1
    have HX1 := Lib.hid (HX0.out.trans hx1)
    have HPB : Hid (w.heap.size ≤ p ∧ w.heap.size ≤ b) := by have := HX0.out.size_le; exact ⟨by omega, by omega⟩
    clear hc1 hx1 hp1 hb1
    go_wp2_with fail
    go_loopw [20] (fun i wr => ∃ (k : Nat) (S : CSt), k ≤ n' ∧ i = .int .i64 k ∧ CMem wr p b S ∧ RunAt (newS L) l k S ∧ Ext w wr) (fun i _ => n' - (intOf i).toNat)
    case atStart => exact ⟨0, _, Nat.zero_le _, rfl, HC1.out, RunAt.zero l HINV.out, HX1.out⟩
    case round =>
      obtain ⟨k, S, hk, rfl, hc, hrun, hx⟩ := hrel
      have HC := Lib.hid hc
      have HRUN := Lib.hid hrun
      have HX := Lib.hid hx
      clear hc hrun hx
      by_cases hlt : k < n'
      · obtain ⟨ad, s, rfl, hs, A1, n1, c1, A2, n2, c2, hat, hi1, hi2⟩ := HS'.out.at_ hlt
        obtain ⟨q0, q1, q2, q3⟩ := hat.ext HX.out
        have HSK := Lib.hid hs.out
        have HI1 := Lib.hid hi1
        have HI2 := Lib.hid hi2
        have HOUT : Hid (0 < n2 → Out (ChF p b) A2) := fun hn ad' e hF => by
          have := hi2.oldS hn ad' e
          have := HPB.out
          rcases hF with e | e <;> omega
        clear hi1 hi2 hat
        go_wp2_with fail
        have HXA : Hid (Ext wr (wr.alloc (Obj.cells #[.int .i64 s.kind, .int .i64 s.id, .slice A1 n1 c1, .slice A2 n2 c2] 44))) := (Ext.refl wr).alloc _
        refine (step_c p b S s _ _ _ _ _ _ _ (HC.out.ext HXA.out) HRUN.out.2.1 (by have h1 := HRUN.out.2.2; rw [newS_len, HLN.out] at h1; omega) (HI1.out.ext (HX.out.trans HXA.out)) (HI2.out.ext (HX.out.trans HXA.out)) HOUT.out).mono ?_
        rintro e w4 ⟨rfl, hm4, hst4⟩
        have HM4 := Lib.hid hm4
        have HX4 : Hid (Ext w w4) := (HX.out.trans HXA.out).then_stay hst4 (fun j e => by have := HPB.out; rcases e with e | e <;> subst e <;> omega)
        clear hm4 hst4 q0 q1 q2 q3
        obtain ⟨E, hE⟩ : ∃ E, stepE S s = E := ⟨_, rfl⟩
        have HE := Lib.hid hE
        rw [hE]
        clear hE
        by_cases hz : E = 0
        · subst hz
          go_wp2_with fail
          go_roundw
          case rel => exact ⟨k + 1, stepS S s, by omega, by go_num, HM4.out, HRUN.out.step HSK.out HE.out, HX4.out⟩
          case measure => simp [intOf]; omega
        · have hb : (E == 0) = false := by simpa using hz
          have HRR : Hid (checkL v L l = ((k : Int), E)) := by
            unfold Hid
            rw [HR.out, HRUN.out.err HSK.out (by rw [HE.out]; exact hz), HE.out]
          go_wp2_with fail
          go_ret2
          exact ⟨by rw [HRR.out]; rfl, HX4.out⟩
      · have hkn : k = n' := by omega
        subst hkn
        have HRR : Hid (checkL v L l = ((k : Int), if S.done then 0 else 25)) := by unfold Hid; rw [HR.out, HRUN.out.last (by rw [HLN'.out]; exact Nat.le_refl _)]
        go_wp2_with fail
        refine (done_c _ p b S HC.out).mono ?_
        rintro e w5 ⟨rfl, rfl⟩
        obtain ⟨d, hd⟩ : ∃ d, S.done = d := ⟨_, rfl⟩
        rw [hd] at HRR ⊢
        clear hd
        cases d
        · go_wp2_with fail
          go_ret2
          exact ⟨by rw [HRR.out]; rfl, HX.out⟩
        · go_wp2_with fail
          go_ret2
          exact ⟨by rw [HRR.out]; rfl, HX.out⟩
  · have hb : (f2 == 0) = false := by simpa using h2
    have HR : Hid (checkL v L l = (-1, f2)) := by unfold Hid checkL; rw [hf, if_pos h2]
    clear hf
    go_enter Tryz.func6, Tryz.ntmps6
    go_wp2_with fail
    refine (new_c v _ _ _ L _ (HS.out.ext HX0.out) (by omega)).mono ?_
    intro e w1 hret
    unfold RetNew at hret
    rw [HF.out, if_pos h2] at hret
    obtain ⟨rfl, hx1⟩ := hret
    have HX1 := Lib.hid (HX0.out.trans hx1)
    clear hx1
    go_wp2_with fail
    go_ret2
    exact ⟨by rw [HR.out]; rfl, HX1.out⟩
end Go.Proofs.YtdgflniahoidmaaGreat
