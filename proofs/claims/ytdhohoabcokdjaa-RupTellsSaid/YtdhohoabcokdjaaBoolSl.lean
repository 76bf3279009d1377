/- A slice of truths that reads as a list; replevinref03.SameBools. -/
import Derived.Test.YtdhohoabcokdjaaSame
set_option maxRecDepth 100000
namespace Go.Proofs.Ytdhohoabcokdjaa
open Go.RowKit

/-- A slice of truths that reads as xs. -/
def BoolSl (w : World) (A : Option Addr) (n : Nat) (xs : List Bool) : Prop :=
  xs.length = n ∧ n ≤ 9223372036854775807 ∧ (0 < n → ∃ ad, A = some ad ∧ ∀ (j : Nat) (x : Bool), xs[j]? = some x → w.cell? (ad.add j) = some (.bool x))
section
variable {w w' : World} {A : Option Addr} {n : Nat} {xs : List Bool}
theorem BoolSl.ext (h : BoolSl w A n xs) (hx : Ext w w') : BoolSl w' A n xs :=
  ⟨h.1, h.2.1, fun hn => let ⟨ad, e, hc⟩ := h.2.2 hn; ⟨ad, e, fun j x hj => hx.cell (hc j x hj)⟩⟩
theorem BoolSl.nil (w : World) : BoolSl w none 0 [] := ⟨rfl, by decide, fun h => absurd h (by omega)⟩
theorem BoolSl.len (h : BoolSl w A n xs) : n ≤ 9223372036854775807 := h.2.1
theorem BoolSl.at_ (h : BoolSl w A n xs) {k : Nat} (hk : k < n) : ∃ ad x, A = some ad ∧ Hid (xs[k]? = some x) ∧ w.cell? (ad.add k) = some (.bool x) := by
  obtain ⟨ad, e, hc⟩ := h.2.2 (by omega)
  have hl : k < xs.length := by have := h.1; omega
  have hx : xs[k]? = some xs[k] := List.getElem?_eq_getElem hl
  exact ⟨ad, xs[k], e, Lib.hid hx, hc k _ hx⟩
end
theorem Blk.bools {w : World} {g : Nat} {t : TypeId} {cs : Array Value} {n : Nat} {xs : List Bool} (h : Blk w g t cs) (hn : xs.length = n) (h2 : n ≤ 9223372036854775807)
    (hc : ∀ (j : Nat) (x : Bool), xs[j]? = some x → cs[j]? = some (Value.bool x)) : BoolSl w (some ⟨g, 0, none⟩) n xs := by
  refine ⟨hn, h2, fun _ => ⟨_, rfl, fun j x hj => ?_⟩⟩
  have e : (⟨g, 0, none⟩ : Addr).add j = ⟨g, j, none⟩ := by unfold Addr.add; split <;> simp_all
  rw [e, h.cell j]
  exact hc j x hj
/-- It hands back a slice that reads as these truths; nothing old has turned. -/
def RetBools (xs : List Bool) (w : World) (e : Ending) (w' : World) : Prop := ∃ A m c, e = .returned (.slice A m c) ∧ BoolSl w' A m xs ∧ Ext w w'

def sameB (xs ys : List Bool) : Bool := decide (xs = ys)
theorem sameB_refl (xs : List Bool) : sameB xs xs = true := by simp [sameB]
set_option maxHeartbeats 1000000 in
theorem sameB_c (A : Option Addr) (n c : Nat) (xs : List Bool) (A' : Option Addr) (n' c' : Nat) (ys : List Bool) (w : World) (h : BoolSl w A n xs) (h' : BoolSl w A' n' ys) :
    Calls Try.prog 63 #[.slice A n c, .slice A' n' c'] w fun e w' => e = .returned (.bool (sameB xs ys)) ∧ Ext w w' := by
  have hn := h.len
  by_cases hl : n = n'
  · subst hl
    go_enter Try.func63, Try.ntmps63
    go_wp2
    go_loopw [5] (fun i wr => ∃ k : Nat, k ≤ n ∧ i = .int .i64 k ∧ xs.take k = ys.take k ∧ Ext w wr) (fun i _ => n - (intOf i).toNat)
    case atStart => exact ⟨0, Nat.zero_le _, rfl, by simp, Ext.refl w⟩
    case round =>
      obtain ⟨k, hk, rfl, he, hx⟩ := hrel
      have HE := Lib.hid he
      have HX := Lib.hid hx
      clear he hx
      by_cases hlt : k < n
      · obtain ⟨ad, x, rfl, hx1, hc1⟩ := (h.ext HX.out).at_ hlt
        obtain ⟨ad', y, rfl, hy1, hc1'⟩ := (h'.ext HX.out).at_ hlt
        have b0 : (0 : Int) ≤ (k : Int) := by omega
        have b1 : (k : Int) < (n : Int) := by omega
        go_wp2
        go_quiet (fail)
        go_wp2
        · go_ret
          have hne : (x != y) = true := by assumption
          refine ⟨ret_bool ?_, HX.out.drewN _⟩
          have : xs ≠ ys := fun e => by
            subst e
            have := hx1.out.symm.trans hy1.out
            simp at this hne
            exact hne this
          simp [sameB, this]
        · have hne : (x != y) = false := by assumption
          go_roundw
          case rel =>
            have e : x = y := by simpa using hne
            subst e
            exact ⟨k + 1, by omega, by go_num, take_eq_succ HE.out hx1.out hy1.out, HX.out.drewN _⟩
          case measure => simp [intOf]; omega
      · go_wp2
        go_ret
        refine ⟨ret_bool ?_, HX.out⟩
        have e := HE.out
        rw [take_len_of h.1 hlt, take_len_of h'.1 hlt] at e
        simp [sameB, e]
  · have hb : ((n : Int) != (n' : Int)) = true := by rw [bne_iff_ne]; omega
    have HL := Lib.hid hl
    clear hl
    go_enter Try.func63, Try.ntmps63
    go_wp2
    go_ret
    refine ⟨ret_bool ?_, Ext.refl w⟩
    have : xs ≠ ys := fun e => HL.out (by rw [← h.1, ← h'.1, e])
    simp [sameB, this]
end Go.Proofs.Ytdhohoabcokdjaa
