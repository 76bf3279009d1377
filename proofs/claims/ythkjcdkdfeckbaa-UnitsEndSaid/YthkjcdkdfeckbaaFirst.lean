/- replevinref04.First, and a slice of one element. -/
import Derived.Test.YthkjcdkdfeckbaaSlRows
import Derived.Test.YthkjcdkdfeckbaaHolds
import Derived.Test.YthkjcdkdfeckbaaFn
import Derived.Test.YthkjcdkdfeckbaaApp
import Derived.DataElems
namespace Go.Proofs.Ythkjcdkdfeckbaa
open Go.RowKit

def firstV (L : List (List Int)) (m : List Bool) : Int := idxP (fun c => !holdsV c m) L
theorem firstV_neg {L : List (List Int)} {m : List Bool} : firstV L m < 0 ↔ ∀ c ∈ L, holdsV c m = true := by
  unfold firstV idxP
  cases e : L.findIdx? (fun c => !holdsV c m) with
  | none =>
    rw [List.findIdx?_eq_none_iff] at e
    simp at e
    exact ⟨fun _ => e, fun _ => (by decide : (-1 : Int) < 0)⟩
  | some k =>
    rw [List.findIdx?_eq_some_iff_getElem] at e
    obtain ⟨hk, hp, _⟩ := e
    constructor
    · intro h; have h' : (k : Int) < 0 := h; omega
    · intro h; have := h _ (List.getElem_mem hk); simp [this] at hp

set_option maxHeartbeats 1000000 in
theorem rFirst_c (v : Int) (A : Option Addr) (n c : Nat) (L : List (List Int)) (A' : Option Addr) (n' c' : Nat) (m : List Bool) (w : World) (h : RowsSl w A n L) (h' : BoolSl w A' n' m) :
    Calls Try.prog 21 #[.agg #[.int .i64 v, .slice A n c], .slice A' n' c'] w fun e w' => e = .returned (.int .i64 (firstV L m)) ∧ Ext w w' := by
  have hn := h.len
  go_enter Try.func21, Try.ntmps21
  go_wp2
  go_loop [5] (fun i => ∃ k : Nat, k ≤ n ∧ i = .int .i64 k ∧ (L.take k).findIdx? (fun c => !holdsV c m) = none) (fun i => n - (intOf i).toNat)
  case atStart => exact ⟨0, Nat.zero_le _, rfl, rfl⟩
  case round =>
    obtain ⟨k, hk, rfl, hno⟩ := hrel
    have HN := Lib.hid hno
    clear hno
    have hX := (Ext.refl w).alloc (Obj.cells #[.int .i64 v, .slice A n c] 35)
    by_cases hlt : k < n
    · obtain ⟨ad, xs, A1, n1, c1, rfl, hx, hcx, hrow⟩ := (h.ext hX).at_ hlt
      have HX := Lib.hid hX
      clear hX
      cases hp : holdsV xs m with
      | true =>
        have HP := Lib.hid hp
        clear hp
        go_wp2_with (go_at_call 22; (with_reducible refine (rHolds_c _ _ _ xs _ _ _ m _ hrow (h'.ext HX.out)).mono ?_); rintro e w' ⟨rfl, rfl⟩; rw [HP.out])
        go_round
        case rel => exact ⟨k + 1, by omega, by go_num, findIdx_snoc_none HN.out hx.out (by simp [HP.out])⟩
        case measure => simp [intOf]; omega
      | false =>
        have HP := Lib.hid hp
        clear hp
        go_wp2_with (go_at_call 22; (with_reducible refine (rHolds_c _ _ _ xs _ _ _ m _ hrow (h'.ext HX.out)).mono ?_); rintro e w' ⟨rfl, rfl⟩; rw [HP.out])
        go_ret
        exact ⟨ret_int (by rw [firstV, idxP, findIdx_hit HN.out hx.out (by simp [HP.out])]), HX.out⟩
    · have HX := Lib.hid hX
      clear hX
      go_wp2
      go_ret
      refine ⟨ret_int ?_, HX.out⟩
      have := HN.out
      rw [take_len_of h.1 hlt] at this
      rw [firstV, idxP, this]

theorem OwnI.slc {w : World} {base : Nat} {v : Value} {xs : List Int} (h : OwnI w base v xs) (hn : xs.length ≤ 9223372036854775807) (hx : ∀ x ∈ xs, -9223372036854775808 ≤ x ∧ x ≤ 9223372036854775807) : ∃ A n c, v = .slice A n c ∧ IntSl w A n xs ∧ n ≤ c := by
  have h0 : w.ownsRow base 3 1 v xs.length (xs.map (Value.int .i64)) := h
  rcases h.2 with ⟨rfl, h1⟩ | ⟨g, cap, cur, rfl, hb, hgg, hc, _⟩
  · have : xs = [] := List.eq_nil_of_length_eq_zero h1
    subst this
    exact ⟨none, 0, 0, rfl, IntSl.nil w, Nat.le_refl _⟩
  · refine ⟨_, _, _, rfl, ⟨rfl, hn, hx, fun _ => ⟨_, rfl, fun j x hj => ?_⟩⟩, hc⟩
    exact h0.cells (g := g) rfl j _ (by rw [List.getElem?_map, hj]; rfl)
theorem IntSl.one {w : World} {ad : Addr} {n k : Nat} {xs : List Int} {x : Int} (h : IntSl w (some ad) n xs) (hx : xs[k]? = some x) : IntSl w (some (ad.add k)) 1 [x] := by
  have hk : k < xs.length := (List.getElem?_eq_some_iff.1 hx).1
  obtain ⟨_, e, hc⟩ := h.2.2.2 (by have := h.1; omega)
  cases e
  refine ⟨rfl, by decide, ?_, fun _ => ⟨_, rfl, fun j y hj => ?_⟩⟩
  · intro y hy
    rw [List.mem_singleton.1 hy]
    exact h.2.2.1 _ (List.mem_of_getElem? hx)
  · have hj0 : j = 0 := by have := (List.getElem?_eq_some_iff.1 hj).1; simp at this; omega
    subst hj0
    simp at hj
    subst hj
    have e0 : (ad.add k).add 0 = ad.add k := by rw [Addr.add_add]; rfl
    rw [e0]
    exact hc k _ hx
theorem holdsV_one (x : Int) (m : List Bool) : holdsV [x] m = litHolds m x := by simp [holdsV]
end Go.Proofs.Ythkjcdkdfeckbaa
