/- Are clauses few, and short? (replevinlaw08) -/
import Derived.Test.YtdhohoabcokdjaaFew
set_option maxRecDepth 100000
namespace Go.Proofs.Ytdhohoabcokdjaa
open Go.RowKit

def few8V (L : List (List Int)) (l : List Int) : Bool := fewV L && decide (L.length ≤ 60) && decide (l.length ≤ 60)
theorem few8_c (A : Option Addr) (n c : Nat) (L : List (List Int)) (A' : Option Addr) (n' c' : Nat) (l : List Int) (w : World) (h : RowsSl w A n L) (h' : IntSl w A' n' l) :
    Calls Try.prog 11 #[.slice A n c, .slice A' n' c'] w fun e w' => e = .returned (.bool (few8V L l)) ∧ Ext w w' := by
  have HF : Hid (few8V L l = (fewV L && decide (n ≤ 60) && decide (n' ≤ 60))) := by unfold Hid; rw [few8V, h.1, h'.1]
  cases hf : fewV L <;> by_cases h1 : n ≤ 60 <;> by_cases h2 : n' ≤ 60
  all_goals
    have HR := HF.out
    rw [hf] at HR
    have HRR := Lib.hid HR
    clear HR
    go_enter Try.func11, Try.ntmps11
    go_wp2_with (go_at_call 39; (with_reducible refine (few04_c _ _ _ _ L _ h).mono ?_); rintro e w1 ⟨rfl, hx⟩)
    go_ret
    exact ⟨ret_bool (by rw [HRR.out]; simp [h1, h2]; try omega), hx⟩
theorem few8_bd {L : List (List Int)} {l : List Int} (h : few8V L l = true) : mostN L ≤ 10000 ∧ L.length ≤ 60 ∧ l.length ≤ 60 := by
  unfold few8V fewV at h
  simp only [Bool.and_eq_true, decide_eq_true_eq, List.all_eq_true] at h
  have := fewV_most (L := L) (fun c hc => h.1.1.2 c hc)
  omega
end Go.Proofs.Ytdhohoabcokdjaa
