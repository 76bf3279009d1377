/- slices.IndexFunc over a closure that only computes. -/
import Derived.Test.YtdhohoabcokdjaaAssign1
set_option maxRecDepth 100000
namespace Go.Proofs.Ytdhohoabcokdjaa
open Go.RowKit Go.Maps

/-- The first place where p holds, or -1. -/
def idxP {α : Type} (p : α → Bool) (xs : List α) : Int := match xs.findIdx? p with | some k => k | none => -1

/-- A call of F enters its body. -/
def Enters (F : Nat) : Prop := ∀ (args : Array Value) (w : World), Sem.run Try.prog (callFunc F args) w = .ok (.enter F args) w

theorem enters_unit : Enters 89 := by
  intro args w
  go_simp

theorem enters_taut : Enters 83 := by
  intro args w
  go_simp

theorem idxFunc_c (A : Option Addr) (n c : Nat) (xs : List Int) (p : Int → Bool) (F : Nat) (q : Value) (w : World) (h : IntSl w A n xs)
    (hF : Enters F)
    (hf : ∀ x, x ∈ xs → Calls Try.prog F #[.int .i64 x, q] w fun e w' => e = .returned (.bool (p x)) ∧ w = w') :
    Calls Try.prog 88 #[.slice A n c, .func (.func F) #[] #[q]] w fun e w' => e = .returned (.int .i64 (idxP p xs)) ∧ w = w' := by
  have hn := h.len
  go_enter Try.func88, Try.ntmps88
  go_wp2
  go_loop [8] (fun i => ∃ k : Nat, k ≤ n ∧ i = .int .i64 k ∧ (xs.take k).findIdx? p = none) (fun i => n - (intOf i).toNat)
  case atStart => exact ⟨0, Nat.zero_le _, rfl, rfl⟩
  case round =>
    obtain ⟨k, hk, rfl, hno⟩ := hrel
    have HN := Lib.hid hno
    clear hno
    by_cases hlt : k < n
    · obtain ⟨ad, y, rfl, hy, hc, hx1, hx2⟩ := h.at_ hlt
      cases hp : p y with
      | true =>
        have HPY := Lib.hid hp
        clear hp
        go_wp2_with fail
        rw [hF, Oper.upon_enter]
        refine (hf y (List.mem_of_getElem? hy.out)).mono ?_
        rintro e w' ⟨rfl, rfl⟩
        rw [HPY.out]
        go_wp2
        go_ret
        exact ⟨ret_int (by rw [idxP, findIdx_hit HN.out hy.out HPY.out]), rfl⟩
      | false =>
        have HPY := Lib.hid hp
        clear hp
        go_wp2_with fail
        rw [hF, Oper.upon_enter]
        refine (hf y (List.mem_of_getElem? hy.out)).mono ?_
        rintro e w' ⟨rfl, rfl⟩
        rw [HPY.out]
        go_wp2
        go_round
        case rel => exact ⟨k + 1, by omega, by go_num, findIdx_snoc_none HN.out hy.out HPY.out⟩
        case measure => simp [intOf]; omega
    · go_wp2
      go_ret
      refine ⟨ret_int ?_, rfl⟩
      have := HN.out
      rw [take_len_of h.1 hlt] at this
      rw [idxP, this]

theorem containsFunc_c (A : Option Addr) (n c : Nat) (xs : List Int) (p : Int → Bool) (F : Nat) (q : Value) (w : World) (h : IntSl w A n xs)
    (hF : Enters F)
    (hf : ∀ x, x ∈ xs → Calls Try.prog F #[.int .i64 x, q] w fun e w' => e = .returned (.bool (p x)) ∧ w = w') :
    Calls Try.prog 77 #[.slice A n c, .func (.func F) #[] #[q]] w fun e w' => e = .returned (.bool (xs.any p)) ∧ w = w' := by
  go_enter Try.func77, Try.ntmps77
  go_wp2_with (go_at_call 88; refine (idxFunc_c _ _ _ xs p _ _ _ h hF hf).mono ?_; rintro e w' ⟨rfl, rfl⟩)
  go_ret
  refine ⟨ret_bool ?_, rfl⟩
  unfold idxP
  cases e : xs.findIdx? p with
  | none =>
    rw [List.findIdx?_eq_none_iff] at e
    have : xs.any p = false := by rw [List.any_eq_false]; intro y hy; simp [e y hy]
    simp [this]
  | some k =>
    rw [List.findIdx?_eq_some_iff_getElem] at e
    obtain ⟨hk, e, _⟩ := e
    have : xs.any p = true := by rw [List.any_eq_true]; exact ⟨_, List.getElem_mem hk, e⟩
    simp [this]
end Go.Proofs.Ytdhohoabcokdjaa
