/- slices.Clone of numbers: what comes is owned. -/
import Derived.Test.YtdhohoabcokdjaaOwn0
import Derived.Laws.Cover3
set_option maxRecDepth 100000
namespace Go.Proofs.Ytdhohoabcokdjaa
open Go.RowKit

theorem run_eql_sl_nil (A : Option Addr) (n c : Nat) (w : World) : (binOp .eql 22 (.slice A n c) (.slice none 0 0)).run Try.prog w = .ok (.bool A.isNone) w := by
  simp only [binOp]
  simp [run_equal_slice_nil w 22 3 A n c Try.underlying22]

/-- It hands back a slice that the call owns; nothing old has turned. -/
def RetOwn (xs : List Int) (w : World) (e : Ending) (w' : World) : Prop := ∃ v, e = .returned v ∧ OwnI w' w.heap.size v xs ∧ Ext w w'

theorem clone_c (A : Option Addr) (n c : Nat) (xs : List Int) (w : World) (h : IntSl w A n xs) (hsm : n ≤ 1000000000000) :
    Calls Try.prog 52 #[.slice A n c] w (RetOwn xs w) := by
  cases A with
  | none =>
    have hn : n = 0 := by
      rcases Nat.eq_zero_or_pos n with e | e
      · exact e
      · obtain ⟨ad, e, _⟩ := h.2.2.2 e
        cases e
    subst hn
    have hx : xs = [] := List.eq_nil_of_length_eq_zero h.1
    subst hx
    have he1 := fun (c : Nat) (W : World) => run_eql_sl_nil none 0 c W
    go_enter Try.func52, Try.ntmps52
    go_wp2
    go_ret
    exact ⟨_, rfl, OwnI.nil _ _, Ext.refl _⟩
  | some ad =>
    have he1 := fun (W : World) => run_eql_sl_nil (some ad) n c W
    go_enter Try.func52, Try.ntmps52
    go_wp2_with (at_builtin; refine appendS _ rfl (.tmp 5) (.tmp 6) rfl w.heap.size _ [] rfl (own_empty w) _ _ _ xs rfl (h.ext ((Ext.refl _).alloc _)) (by simp; omega) (by simp) ?_; intro v5 w5 ho5 hg5 hloc; clear hloc; have HO5 := Lib.hid ho5; have HX5 : Hid (Ext w w5) := Ext.grown ((Ext.refl _).alloc _) hg5 (fun j hj => by have := (own_empty w).blk j hj; omega); clear ho5 hg5)
    go_ret
    exact ⟨_, rfl, by simpa using HO5.out, HX5.out⟩
end Go.Proofs.Ytdhohoabcokdjaa
