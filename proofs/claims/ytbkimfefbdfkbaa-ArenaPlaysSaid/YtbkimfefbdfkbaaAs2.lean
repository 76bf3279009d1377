/- Layer 12 (arena): the reference's Put. -/
import Derived.Test.YtbkimfefbdfkbaaAs1
set_option maxRecDepth 100000
namespace Go.Proofs.Ytbkimfefbdfkbaa
open Go.RowKit

/-- What a function of the reference hands back: an arena, and numbers. -/
def RetR (F : Nat → Prop) (S : ASt) (tl : List Value) (w : World) (e : Ending) (w' : World) : Prop :=
  ∃ v, e = .returned (.tuple (.agg #[v, .int .i64 S.size] :: tl).toArray) ∧ RefR F w' 0 v S.rows ∧ Ext w w'
theorem Blk.new2K (W : World) (a : Obj) (t : TypeId) (cs : Array Value) : Blk ((W.alloc a).alloc (.cells cs t)) (W.heap.size + 1) t cs := by
  have := Blk.new (W.alloc a) t cs
  rwa [World.size_alloc] at this

set_option maxRecDepth 100000 in
set_option maxHeartbeats 4000000 in
theorem rPutBad_c (F : Nat → Prop) (w : World) (v : Value) (S : ASt) (id : Int) (A : Option Addr) (n c : Nat) (lits : List Int) (b : Bool) (h : RefR F w 0 v S.rows) (hl : IntSl w A n lits) (hnc : n ≤ c) (hE : putE id lits ≠ 0) :
    Calls Try.prog 58 #[.agg #[v, .int .i64 S.size], .int .i64 id, .slice A n c, .bool b] w (RetR F (putS S id lits b) [.int .i64 (putAt S id lits), .int .i64 (putE id lits)] w) := by
  obtain ⟨A0, c0, rfl, hc⟩ := RefR.len h
  have hS : putS S id lits b = S := by unfold putS; rw [if_neg hE]
  have hP : putAt S id lits = 0 := by unfold putAt; rw [if_neg hE]
  rw [hS, hP]
  clear hS hP
  have HB0 := Lib.hid ((Blk.new w 58 #[.slice A0 S.rows.length c0, .int .i64 S.size]).alloc (Obj.cells #[.slice none 0 0, .int .i64 0] 58))
  have HB1 := Lib.hid (Blk.new2K w (Obj.cells #[.slice A0 S.rows.length c0, .int .i64 S.size] 58) 58 #[.slice none 0 0, .int .i64 0])
  have HX := Lib.hid (((Ext.refl w).alloc (Obj.cells #[.slice A0 S.rows.length c0, .int .i64 S.size] 58)).alloc (Obj.cells #[.slice none 0 0, .int .i64 0] 58))
  by_cases hid : id < 1 ∨ 10000000 < id
  · have he : putE id lits = 2 := by unfold putE; rw [if_pos hid]
    rw [he]
    clear he hE
    have hb0 := HB0.out
    have a0 := hb0.cell 0
    have a1 := hb0.cell 1
    have hd1 := HB1.out
    have g0 := hd1.cell 0
    have g1 := hd1.cell 1
    have p0 := hd1.frozen 0
    have p1 := hd1.frozen 1
    have KEY : Hid (∀ w', Ext w w' → RetR F S [.int .i64 0, .int .i64 2] w (.returned (.tuple #[.agg #[.slice A0 S.rows.length c0, .int .i64 S.size], .int .i64 0, .int .i64 2])) w') := Lib.hid fun w' hx => ⟨_, rfl, h.ext hx, hx⟩
    clear hb0 hd1
    by_cases h1 : id < 1
    · go_enter Try.func58, Try.ntmps58
      go_wp2
      refine bodyPost_ret (v := .tuple #[.agg #[.slice A0 S.rows.length c0, .int .i64 S.size], .int .i64 0, .int .i64 2]) (by simp [results, Try.results58, go_sem, *]) rfl ?_
      refine KEY.out _ ?_
      repeat (first | refine Ext.setCell ?_ (by simp) _ | refine Ext.alloc ?_ _)
      exact Ext.refl _
    · have h2 : (10000000 : Int) < id := by omega
      go_enter Try.func58, Try.ntmps58
      go_wp2
      refine bodyPost_ret (v := .tuple #[.agg #[.slice A0 S.rows.length c0, .int .i64 S.size], .int .i64 0, .int .i64 2]) (by simp [results, Try.results58, go_sem, *]) rfl ?_
      refine KEY.out _ ?_
      repeat (first | refine Ext.setCell ?_ (by simp) _ | refine Ext.alloc ?_ _)
      exact Ext.refl _
  · have h1 : ¬ id < 1 := fun hh => hid (Or.inl hh)
    have h2 : ¬ (10000000 : Int) < id := fun hh => hid (Or.inr hh)
    have he : putE id lits = cCheckV lits 100000 := by unfold putE; rw [if_neg hid]
    rw [he] at hE ⊢
    clear he hid
    have hne : (cCheckV lits 100000 != 0) = true := by simpa using hE
    clear hE
    go_enter Try.func58, Try.ntmps58
    go_wp2_with fail
    refine (rClause_c _ _ _ lits 100000 _ (hl.ext HX.out) hnc).mono ?_
    rintro e w1 ⟨rfl, hx1⟩
    have hb0 := HB0.out.ext hx1
    have a0 := hb0.cell 0
    have a1 := hb0.cell 1
    have hd1 := HB1.out.ext hx1
    have g0 := hd1.cell 0
    have g1 := hd1.cell 1
    have p0 := hd1.frozen 0
    have p1 := hd1.frozen 1
    clear hb0 hd1
    have HX1 := Lib.hid hx1
    clear hx1
    go_wp2
    refine bodyPost_ret (v := .tuple #[.agg #[.slice A0 S.rows.length c0, .int .i64 S.size], .int .i64 0, .int .i64 (cCheckV lits 100000)]) (by simp [results, Try.results58, go_sem, *]) rfl ?_
    have hx2 : Ext w w1 := HX.out.trans HX1.out
    refine ⟨_, rfl, ?_, ?_⟩
    · refine h.ext ?_
      repeat refine Ext.setCell ?_ (by simp) _
      exact hx2
    · repeat refine Ext.setCell ?_ (by simp) _
      exact hx2
end Go.Proofs.Ytbkimfefbdfkbaa
