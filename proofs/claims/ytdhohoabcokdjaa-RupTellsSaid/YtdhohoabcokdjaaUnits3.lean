/- Layer 7 (units): Next, Closed. -/
import Derived.Test.YtdhohoabcokdjaaUnits2
import Derived.Laws.EntriesVeiled
import Derived.BigQuiet
set_option maxRecDepth 100000
namespace Go.Proofs.Ytdhohoabcokdjaa
open Go.RowKit Go.Maps

theorem idxRows_c (A : Option Addr) (n c : Nat) (L : List (List Int)) (p : List Int → Bool) (F : Nat) (q : Value) (w : World) (h : RowsSl w A n L) (hF : Enters F)
    (hf : ∀ A' n' c' xs, IntSl w A' n' xs → Calls Try.prog F #[.slice A' n' c', q] w fun e w' => e = .returned (.bool (p xs)) ∧ w = w') :
    Calls Try.prog 75 #[.slice A n c, .func (.func F) #[] #[q]] w fun e w' => e = .returned (.int .i64 (idxP p L)) ∧ w = w' := by
  have hn := h.len
  go_enter Try.func75, Try.ntmps75
  go_wp2
  go_loop [8] (fun i => ∃ k : Nat, k ≤ n ∧ i = .int .i64 k ∧ (L.take k).findIdx? p = none) (fun i => n - (intOf i).toNat)
  case atStart => exact ⟨0, Nat.zero_le _, rfl, rfl⟩
  case round =>
    obtain ⟨k, hk, rfl, hno⟩ := hrel
    have HN := Lib.hid hno
    clear hno
    by_cases hlt : k < n
    · obtain ⟨ad, xs, A', n', c', rfl, hy, hc, hrow⟩ := h.at_ hlt
      cases hp : p xs with
      | true =>
        have HPY := Lib.hid hp
        clear hp
        go_wp2_with fail
        rw [hF, Oper.upon_enter]
        refine (hf _ _ _ xs hrow).mono ?_
        rintro e w' ⟨rfl, rfl⟩
        rw [HPY.out]
        go_wp2
        go_ret
        exact ⟨ret_int (by rw [idxP, findIdx_hit HN.out hy.out HPY.out]), rfl⟩
      | false =>
        have HPY := Lib.hid hp
        clear hp
        go_wp2_with fail
        rw [hF, Oper.upon_enter]
        refine (hf _ _ _ xs hrow).mono ?_
        rintro e w' ⟨rfl, rfl⟩
        rw [HPY.out]
        go_wp2
        go_round
        case rel => exact ⟨k + 1, by omega, by go_num, findIdx_snoc_none HN.out hy.out HPY.out⟩
        case measure => simp [intOf]; omega
    · go_wp2
      go_ret
      refine ⟨ret_int ?_, rfl⟩
      have := HN.out
      rw [take_len_of h.1 hlt] at this
      rw [idxP, this]

theorem look_unit {l c : List Int} (h : unitB l c = true) : lookH l c = false ∧ lookM l c = 1 ∧ lookO l c = unitU l c := by
  cases hh : lookH l c with
  | true => rw [(look_holds hh).2] at h; cases h
  | false =>
    rcases look_open hh with ⟨_, _, hu⟩ | ⟨hM, _, _, ho⟩ | ⟨_, _, hu⟩
    · rw [hu] at h; cases h
    · exact ⟨rfl, hM, ho⟩
    · rw [hu] at h; cases h


end Go.Proofs.Ytdhohoabcokdjaa
