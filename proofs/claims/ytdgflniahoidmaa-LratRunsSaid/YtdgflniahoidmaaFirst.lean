/- replevinref04.First, and a slice of one element. -/
import Derived.Test.YtdgflniahoidmaaSl
import Derived.Test.YtdgflniahoidmaaAssign5
import Derived.Test.YtdgflniahoidmaaAssign1
import Derived.Test.YtdgflniahoidmaaApp
set_option maxRecDepth 100000
namespace Go.Proofs.Ytdgflniahoidmaa
open Go.RowKit

def firstV (L : List (List Int)) (m : List Bool) : Int := idxP (fun c => !holdsV c m) L
theorem firstV_neg {L : List (List Int)} {m : List Bool} : firstV L m < 0 ↔ ∀ c ∈ L, holdsV c m = true := by
  unfold firstV idxP
  cases e : L.findIdx? (fun c => !holdsV c m) with
  | none =>
    rw [List.findIdx?_eq_none_iff] at e
    simp at e
    exact ⟨fun _ => e, fun _ => (by decide : (-1 : Int) < 0)⟩
  | some k =>
    rw [List.findIdx?_eq_some_iff_getElem] at e
    obtain ⟨hk, hp, _⟩ := e
    constructor
    · intro h; have h' : (k : Int) < 0 := h; omega
    · intro h; have := h _ (List.getElem_mem hk); simp [this] at hp

set_option maxHeartbeats 1000000 in
theorem rFirst_c (v : Int) (A : Option Addr) (n c : Nat) (L : List (List Int)) (A' : Option Addr) (n' c' : Nat) (m : List Bool) (w : World) (h : RowsSl w A n L) (h' : BoolSl w A' n' m) :
    Calls Try.prog 8 #[.agg #[.int .i64 v, .slice A n c], .slice A' n' c'] w fun e w' => e = .returned (.int .i64 (firstV L m)) ∧ Ext w w' := by
  have hn := h.len
  go_enter Try.func8, Try.ntmps8
  go_wp2
  go_loop [5] (fun i => ∃ k : Nat, k ≤ n ∧ i = .int .i64 k ∧ (L.take k).findIdx? (fun c => !holdsV c m) = none) (fun i => n - (intOf i).toNat)
  case atStart => exact ⟨0, Nat.zero_le _, rfl, rfl⟩
  case round =>
    obtain ⟨k, hk, rfl, hno⟩ := hrel
    have HN := Lib.hid hno
    clear hno
    have hX := (Ext.refl w).alloc (Obj.cells #[.int .i64 v, .slice A n c] 24)
    by_cases hlt : k < n
    · obtain ⟨ad, xs, A1, n1, c1, rfl, hx, hcx, hrow⟩ := (h.ext hX).at_ hlt
      have HX := Lib.hid hX
      clear hX
      cases hp : holdsV xs m with
      | true =>
        have HP := Lib.hid hp
        clear hp
        go_wp2_with (go_at_call 20; (with_reducible refine (rHolds_c _ _ _ xs _ _ _ m _ hrow (h'.ext HX.out)).mono ?_); rintro e w' ⟨rfl, rfl⟩; rw [HP.out])
        go_round
        case rel => exact ⟨k + 1, by omega, by go_num, findIdx_snoc_none HN.out hx.out (by simp [HP.out])⟩
        case measure => simp [intOf]; omega
      | false =>
        have HP := Lib.hid hp
        clear hp
        go_wp2_with (go_at_call 20; (with_reducible refine (rHolds_c _ _ _ xs _ _ _ m _ hrow (h'.ext HX.out)).mono ?_); rintro e w' ⟨rfl, rfl⟩; rw [HP.out])
        go_ret
        exact ⟨ret_int (by rw [firstV, idxP, findIdx_hit HN.out hx.out (by simp [HP.out])]), HX.out⟩
    · have HX := Lib.hid hX
      clear hX
      go_wp2
      go_ret
      refine ⟨ret_int ?_, HX.out⟩
      have := HN.out
      rw [take_len_of h.1 hlt] at this
      rw [firstV, idxP, this]

theorem holdsV_one (x : Int) (m : List Bool) : holdsV [x] m = litHolds m x := by simp [holdsV]
end Go.Proofs.Ytdgflniahoidmaa
