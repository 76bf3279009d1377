/- Layer 13 (trail): a trail that was made, and what a law does with both trails. -/
import Derived.Test.YtbkimfefbdfkbaaTrail6
import Derived.Test.YtbkimfefbdfkbaaTrail10
import Derived.Test.YtbkimfefbdfkbaaSl
set_option maxRecDepth 100000
namespace Go.Proofs.Ytbkimfefbdfkbaa
open Go.RowKit

/-- A trail in memory that is the document's trail S. -/
structure TrS (w : World) (base p gm : Nat) (lv bv : Value) (S : TSt) (N : Nat) : Prop where
  mem : ∃ bs vars, S.vars = (vars : Nat) ∧ TrMem w base p gm lv bv vars S.rows bs ∧ beginsOk S.rows S.depth bs
  inv : TInv S
  n : S.rows.length ≤ N
  d : S.depth ≤ N
theorem TrS.ext {w w' : World} {base p gm : Nat} {lv bv : Value} {S : TSt} {N : Nat} (h : TrS w base p gm lv bv S N) (hx : Ext w w') : TrS w' base p gm lv bv S N :=
  ⟨let ⟨bs, vars, a, b, c⟩ := h.mem; ⟨bs, vars, a, b.ext hx, c⟩, h.inv, h.n, h.d⟩
/-- The trail has become S; nothing else has turned. -/
def TrNext (w w' : World) (base p gm : Nat) (lv bv : Value) (S : TSt) (N : Nat) : Prop :=
  ∃ lv' bv', TrS w' base p gm lv' bv' S N ∧ Stay (TrF p gm lv bv) w w' ∧ (∀ b, TrF p gm lv' bv' b → TrF p gm lv bv b ∨ w.heap.size ≤ b)
structure ActT where
  kind : Int
  num : Int
  reason : Int
def doS (S : TSt) (a : ActT) : TSt := if a.kind = 0 then decT S a.num else if a.kind = 1 then impT S a.num a.reason else backT S a.num
def doE (S : TSt) (a : ActT) : Int := if a.kind = 0 then mayV S a.num else if a.kind = 1 then impE S a.num a.reason else 0
def doL (S : TSt) (a : ActT) : List Int := if a.kind = 0 then [] else if a.kind = 1 then [] else backO S a.num
theorem dec_len (S : TSt) (l : Int) : (decT S l).rows.length ≤ S.rows.length + 1 ∧ (decT S l).depth ≤ S.depth + 1 := by
  unfold decT; split
  · simp
  · omega
theorem imp_len (S : TSt) (l r : Int) : (impT S l r).rows.length ≤ S.rows.length + 1 ∧ (impT S l r).depth ≤ S.depth + 1 := by
  unfold impT; split
  · simp; omega
  · omega
theorem back_len (S : TSt) (l : Int) : (backT S l).rows.length ≤ S.rows.length + 1 ∧ (backT S l).depth ≤ S.depth + 1 := by
  unfold backT; dsimp only
  refine ⟨Nat.le_trans (List.length_filter_le _ _) (by omega), ?_⟩
  split <;> omega
theorem vars_dec (S : TSt) (l : Int) : (decT S l).vars = S.vars := by unfold decT; split <;> rfl
theorem vars_imp (S : TSt) (l r : Int) : (impT S l r).vars = S.vars := by unfold impT; split <;> rfl
theorem next_of {w w' : World} {base p gm : Nat} {lv bv : Value} {S : TSt} {N vars : Nat} {bs : List Int} (ht : TrTurn w w' base p gm lv bv vars S.rows bs) (hv : S.vars = vars) (hb : beginsOk S.rows S.depth bs) (hI : TInv S) (hn : S.rows.length ≤ N) (hd : S.depth ≤ N) :
    TrNext w w' base p gm lv bv S N := by
  obtain ⟨a, b, h1, h2, h3⟩ := ht
  exact ⟨a, b, ⟨⟨bs, vars, hv, h1, hb⟩, hI, hn, hd⟩, h2, h3⟩

theorem marks_made (n : Nat) : MarksOk (madeCells #[.int .i64 0, .int .i64 0, .int .i64 0, .int .i64 0] ((n + 1) * 4)) n [] := by
  refine ⟨size_madeCells _ _, fun v k hv hk => ?_⟩
  have hlt : v * 4 + k < (n + 1) * 4 := by omega
  rw [markF_none (by simp)]
  unfold madeCells
  have hm : (v * 4 + k) % 4 = k := by omega
  rw [Array.getElem?_map, Array.getElem?_range, if_pos hlt]
  simp only [Option.map_some, List.size_toArray, List.length_cons, List.length_nil]
  show some ((#[Value.int .i64 0, .int .i64 0, .int .i64 0, .int .i64 0] : Array Value)[(v * 4 + k) % 4]!) = _
  rw [hm]
  match k, hk with
  | 0, _ => rfl
  | 1, _ => rfl
  | 2, _ => rfl
  | 3, _ => rfl

def RetNew (v : Int) (w : World) (e : Ending) (w' : World) : Prop :=
  (v < 0 ∨ 100000 < v → e = .returned (.tuple #[.pointer none, .int .i64 2]) ∧ w = w') ∧
  (¬ (v < 0 ∨ 100000 < v) → ∃ p gm, e = .returned (.tuple #[.pointer (some ⟨p, 0, none⟩), .int .i64 0]) ∧ TrS w' w.heap.size p gm (.slice none 0 0) (.slice none 0 0) ⟨v, [], 0⟩ 0 ∧ Ext w w')

theorem infoMk : (Try.prog.info? 90).map (fun i => (i.zero, i.size, i.bytes)) = some (some (.agg #[.int .i64 0, .int .i64 0, .int .i64 0, .int .i64 0]), 4, 32) := by kernel_rfl

set_option maxHeartbeats 1000000 in
theorem trNew_c (v : Int) (w : World) : Calls Try.prog 8 #[.int .i64 v] w (RetNew v w) := by
  by_cases h : v < 0 ∨ 100000 < v
  · have H := Lib.hid h
    rcases h with h | h
    all_goals
      go_enter Try.func8, Try.ntmps8
      go_wp2
      go_ret2
      exact ⟨fun _ => ⟨rfl, rfl⟩, fun hn => absurd H.out hn⟩
  · obtain ⟨n, rfl⟩ := Int.eq_ofNat_of_zero_le (show 0 ≤ v by omega)
    have hn : n ≤ 100000 := by omega
    have hn1 : (n : Int) ≤ 100000 := by omega
    obtain ⟨i0, hi, hz0, hz1, hz2⟩ := info_parts infoMk
    have hmk : ∀ W, (Instr.makeSlice 75 (.int .i64 ((n : Int) + 1)) (.int .i64 ((n : Int) + 1))).run Try.prog W = .ok (.slice (some ⟨W.heap.size, 0, none⟩) (n + 1) (n + 1)) (W.alloc (.cells (madeCells #[.int .i64 0, .int .i64 0, .int .i64 0, .int .i64 0] ((n + 1) * 4)) 90)) := fun W => by
      have := run_make_rowN (P := Try.prog) 75 90 i0 _ Try.underlying75 hi hz0 .i64 .i64 (n + 1) (n + 1) (Nat.le_refl _) (by rw [hz2]; omega) (by omega) W
      rw [hz1] at this
      exact this
    have H := Lib.hid h
    clear h hi hz0 hz1 hz2
    go_enter Try.func8, Try.ntmps8
    go_wp2
    go_ret2
    refine ⟨fun hh => absurd hh H.out, fun _ => ⟨w.heap.size + 1, w.heap.size, by simp, ⟨⟨[], n, rfl, ⟨?_, ⟨madeCells #[.int .i64 0, .int .i64 0, .int .i64 0, .int .i64 0] ((n + 1) * 4), ?_, marks_made n⟩, OwnI.nil _ _, OwnI.nil _ _, Or.inl rfl, by omega, by omega, by simp, by simp, by simp, by simp, hn⟩, begins_new⟩, TInv.new (by omega) (by omega), by simp, by simp⟩, by (repeat (first | with_reducible exact Ext.refl _ | with_reducible apply Ext.alloc | with_reducible apply Ext.drew | with_reducible apply Ext.drewN | (apply Ext.trans'; assumption)))⟩⟩
    · exact Blk.new2 w _ _ _
    · exact (Blk.new w _ _).alloc _
end Go.Proofs.Ytbkimfefbdfkbaa
