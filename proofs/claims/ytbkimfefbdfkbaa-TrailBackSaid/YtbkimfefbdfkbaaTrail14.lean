/- Layer 13 (trail): the contracts of a trail's methods, over the document's trail. -/
import Derived.Test.YtbkimfefbdfkbaaTrail12
set_option maxRecDepth 100000
namespace Go.Proofs.Ytbkimfefbdfkbaa
open Go.RowKit

theorem trLevelS_c (w : World) (base p gm : Nat) (lv bv : Value) (S : TSt) (N : Nat) (v : Int) (h : TrS w base p gm lv bv S N) :
    Calls Try.prog 17 #[.pointer (some ⟨p, 0, none⟩), .int .i64 v] w fun e w' => e = .returned (.int .i64 (levelV S.rows v)) ∧ Ext w w' := by
  obtain ⟨bs, vars, hv, hm, hb⟩ := h.mem
  exact trLevel_c w base p gm lv bv vars S.rows bs v hm
theorem trReasonS_c (w : World) (base p gm : Nat) (lv bv : Value) (S : TSt) (N : Nat) (v : Int) (h : TrS w base p gm lv bv S N) :
    Calls Try.prog 18 #[.pointer (some ⟨p, 0, none⟩), .int .i64 v] w fun e w' => e = .returned (.int .i64 (reasonV S.rows v)) ∧ Ext w w' := by
  obtain ⟨bs, vars, hv, hm, hb⟩ := h.mem
  exact trReason_c w base p gm lv bv vars S.rows bs v hm
theorem trPlaceS_c (w : World) (base p gm : Nat) (lv bv : Value) (S : TSt) (N : Nat) (v : Int) (h : TrS w base p gm lv bv S N) :
    Calls Try.prog 21 #[.pointer (some ⟨p, 0, none⟩), .int .i64 v] w fun e w' => e = .returned (.int .i64 (placeV S.rows v)) ∧ Ext w w' := by
  obtain ⟨bs, vars, hv, hm, hb⟩ := h.mem
  exact trPlace_c w base p gm lv bv vars S.rows bs v hm
theorem trValueS_c (w : World) (base p gm : Nat) (lv bv : Value) (S : TSt) (N : Nat) (v : Int) (h : TrS w base p gm lv bv S N) (h1 : -9223372036854775808 ≤ v) (h2 : v ≤ 9223372036854775807) :
    Calls Try.prog 22 #[.pointer (some ⟨p, 0, none⟩), .int .i64 v] w fun e w' => e = .returned (.int .i64 (valT S.rows v)) ∧ Ext w w' := by
  obtain ⟨bs, vars, hv, hm, hb⟩ := h.mem
  exact trValue_c w base p gm lv bv vars S.rows bs v hm h1 h2
theorem trDepthS_c (w : World) (base p gm : Nat) (lv bv : Value) (S : TSt) (N : Nat) (h : TrS w base p gm lv bv S N) :
    Calls Try.prog 19 #[.pointer (some ⟨p, 0, none⟩)] w fun e w' => e = .returned (.int .i64 S.depth) ∧ Ext w w' := by
  obtain ⟨bs, vars, hv, hm, hb⟩ := h.mem
  have := trDepth_c w base p gm lv bv vars S.rows bs hm
  rw [hb.1] at this
  exact this
theorem trOpenS_c (w : World) (base p gm : Nat) (lv bv : Value) (S : TSt) (N : Nat) (h : TrS w base p gm lv bv S N) :
    Calls Try.prog 41 #[.pointer (some ⟨p, 0, none⟩)] w fun e w' => e = .returned (.int .i64 (S.vars - (S.rows.length : Nat))) ∧ Ext w w' := by
  obtain ⟨bs, vars, hv, hm, hb⟩ := h.mem
  have := trOpen_c w base p gm lv bv vars S.rows bs hm
  rw [← hv] at this
  exact this
theorem trLitsS_c (w : World) (base p gm : Nat) (lv bv : Value) (S : TSt) (N : Nat) (h : TrS w base p gm lv bv S N) :
    Calls Try.prog 16 #[.pointer (some ⟨p, 0, none⟩)] w (RetOwn (litsT S.rows) w) := by
  obtain ⟨bs, vars, hv, hm, hb⟩ := h.mem
  exact trLits_c w base p gm lv bv vars S.rows bs hm
theorem trDecideS_c (w : World) (base p gm : Nat) (lv bv : Value) (S : TSt) (N : Nat) (l : Int) (h : TrS w base p gm lv bv S N) (hN : N < 1000000000) :
    Calls Try.prog 39 #[.pointer (some ⟨p, 0, none⟩), .int .i64 l] w fun e w' => e = .returned (.int .i64 (mayV S l)) ∧ TrNext w w' base p gm lv bv (decT S l) (N + 1) := by
  obtain ⟨bs, vars, hv, hm, hb⟩ := h.mem
  have hn := h.n
  have hd := h.d
  refine (trDecide_c w base p gm lv bv S vars bs l hv hm h.inv hb (by omega) (by have := hb.1; omega)).mono ?_
  rintro e w' ⟨he, bs', ht, hb'⟩
  have hl := dec_len S l
  exact ⟨he, next_of ht (by rw [vars_dec]; exact hv) hb' (h.inv.dec l) (Nat.le_trans hl.1 (Nat.succ_le_succ hn)) (by omega)⟩
theorem trImplyS_c (w : World) (base p gm : Nat) (lv bv : Value) (S : TSt) (N : Nat) (l rs : Int) (h : TrS w base p gm lv bv S N) (hN : N < 1000000000) (hr : rs ≤ 9223372036854775807) :
    Calls Try.prog 40 #[.pointer (some ⟨p, 0, none⟩), .int .i64 l, .int .i64 rs] w fun e w' => e = .returned (.int .i64 (impE S l rs)) ∧ TrNext w w' base p gm lv bv (impT S l rs) (N + 1) := by
  obtain ⟨bs, vars, hv, hm, hb⟩ := h.mem
  have hn := h.n
  have hd := h.d
  refine (trImply_c w base p gm lv bv S vars bs l rs hv hm hb (by omega)).mono ?_
  rintro e w' ⟨he, ht, hb'⟩
  have hl := imp_len S l rs
  exact ⟨he, next_of ht (by rw [vars_imp]; exact hv) hb' (h.inv.imp l hr) (Nat.le_trans hl.1 (Nat.succ_le_succ hn)) (by omega)⟩
theorem trBackS_c (w : World) (base p gm : Nat) (lv bv : Value) (S : TSt) (N : Nat) (lev : Int) (h : TrS w base p gm lv bv S N) (h1 : -9223372036854775808 ≤ lev) (h2 : lev ≤ 9223372036854775807) :
    Calls Try.prog 20 #[.pointer (some ⟨p, 0, none⟩), .int .i64 lev] w fun e w' => ∃ v, e = .returned v ∧ OwnI w' w.heap.size v (backO S lev) ∧ TrNext w w' base p gm lv bv (backT S lev) (N + 1) := by
  obtain ⟨bs, vars, hv, hm, hb⟩ := h.mem
  have hn := h.n
  have hd := h.d
  refine (trBack_c w base p gm lv bv S vars bs lev hv hm h.inv hb h1 h2).mono ?_
  rintro e w' ⟨v, bs', he, ho, ht, hb'⟩
  have hl := back_len S lev
  exact ⟨v, he, ho, next_of ht (show (backT S lev).vars = _ from hv) hb' (h.inv.back lev) (Nat.le_trans hl.1 (Nat.succ_le_succ hn)) (by omega)⟩
theorem TrNext.step {w w1 w2 : World} {base p gm : Nat} {lv bv lv1 bv1 : Value} {S : TSt} {N : Nat} (S1 : Stay (TrF p gm lv bv) w w1) (F1 : ∀ b, TrF p gm lv1 bv1 b → TrF p gm lv bv b ∨ w.heap.size ≤ b)
    (h : TrNext w1 w2 base p gm lv1 bv1 S N) : TrNext w w2 base p gm lv bv S N := by
  obtain ⟨a, b, h1, h2, h3⟩ := h
  refine ⟨a, b, h1, S1.trans h2 (fun j hj hf => by rcases F1 j hf with e | e; exact e; omega), fun k hk => ?_⟩
  rcases h3 k hk with e | e
  · exact F1 k e
  · exact Or.inr (Nat.le_trans S1.size e)
theorem TrS.lt {w : World} {base p gm : Nat} {lv bv : Value} {S : TSt} {N : Nat} (h : TrS w base p gm lv bv S N) {b : Nat} (hb : TrF p gm lv bv b) : base ≤ b ∧ b < w.heap.size := by
  obtain ⟨bs, vars, _, hm, _⟩ := h.mem
  exact hm.lt hb
/-- What lay there before the trail was made has not turned. -/
theorem TrS.ext_of {w0 w w' : World} {base p gm : Nat} {lv bv : Value} {S : TSt} {N : Nat} (h : TrS w base p gm lv bv S N) (hx : Ext w0 w) (hb : w0.heap.size ≤ base) (hs : Stay (TrF p gm lv bv) w w') : Ext w0 w' :=
  Stay.ext (F := TrF p gm lv bv) (Stay.ext_trans hx hs) (fun b hf => by have := (h.lt hf).1; omega)
end Go.Proofs.Ytbkimfefbdfkbaa
