/- Are clauses few, and short? -/
import Derived.Test.YtdgflniahoidmaaGreatSl
import Derived.Test.YtdgflniahoidmaaGreatUnits1
set_option maxRecDepth 100000
namespace Go.Proofs.YtdgflniahoidmaaGreat
open Go.RowKit

def fewV (L : List (List Int)) : Bool := decide (L.length ≤ 200) && L.all fun c => decide (c.length ≤ 50)
theorem fewV_most {L : List (List Int)} (h : ∀ c ∈ L, c.length ≤ 50) : mostN L ≤ 50 * L.length := by
  induction L with
  | nil => exact Nat.le_refl _
  | cons c L ih =>
    have e : mostN (c :: L) = c.length + mostN L := rfl
    have h1 := h c (List.mem_cons_self ..)
    have h2 := ih fun d hd => h d (List.mem_cons_of_mem _ hd)
    rw [e, List.length_cons]
    omega

set_option maxHeartbeats 1000000 in
theorem few04_c (v : Int) (A : Option Addr) (n c : Nat) (L : List (List Int)) (w : World) (h : RowsSl w A n L) :
    Calls Tryz.prog 18 #[.agg #[.int .i64 v, .slice A n c]] w fun e w' => e = .returned (.bool (fewV L)) ∧ Ext w w' := by
  have hn := h.len
  have hL := h.1
  by_cases hb : 200 < n
  · have HR : Hid (fewV L = false) := by unfold Hid; rw [fewV, decide_eq_false (by omega)]; rfl
    go_enter Tryz.func18, Tryz.ntmps18
    go_wp2
    go_ret
    exact ⟨ret_bool HR.out.symm, (Ext.refl _).alloc _⟩
  · have hb2 : n ≤ 200 := by omega
    go_enter Tryz.func18, Tryz.ntmps18
    go_wp2
    go_loop [3] (fun i => ∃ k : Nat, k ≤ n ∧ i = .int .i64 k ∧ (L.take k).all (fun c => decide (c.length ≤ 50)) = true) (fun i => n - (intOf i).toNat)
    case atStart => exact ⟨0, Nat.zero_le _, rfl, rfl⟩
    case round =>
      obtain ⟨k, hk, rfl, ha⟩ := hrel
      have HA := Lib.hid ha
      clear ha
      by_cases hlt : k < n
      · obtain ⟨ad, xs, A1, n1, c1, rfl, hx, hcx, hrow⟩ := (h.ext ((Ext.refl w).alloc (Obj.cells #[.int .i64 v, .slice A n c] 24))).at_ hlt
        have HT := Lib.hid (take_succ_of hx.out)
        have hlen := hrow.1
        by_cases h50 : 50 < n1
        · have HR : Hid (fewV L = false) := by
            unfold Hid
            rw [fewV, Bool.and_eq_false_iff]
            right
            rw [List.all_eq_false]
            exact ⟨xs, List.mem_of_getElem? hx.out, by simp; omega⟩
          go_wp2
          go_ret
          exact ⟨ret_bool HR.out.symm, (Ext.refl _).alloc _⟩
        · go_wp2
          go_round
          case rel => exact ⟨k + 1, by omega, by go_num, by rw [HT.out, List.all_append, HA.out]; simp; omega⟩
          case measure => simp [intOf]; omega
      · have ha := HA.out
        rw [take_len_of h.1 hlt] at ha
        have HR : Hid (fewV L = true) := by unfold Hid; rw [fewV, ha, decide_eq_true (by omega)]; rfl
        clear ha
        go_wp2
        go_ret
        exact ⟨ret_bool HR.out.symm, (Ext.refl _).alloc _⟩

def few7V (L : List (List Int)) (l : List Int) : Bool := fewV L && decide (L.length ≤ 60) && decide (l.length ≤ 60)


end Go.Proofs.YtdgflniahoidmaaGreat

/- Are clauses few, and short? (replevinlaw08) -/
namespace Go.Proofs.YtdgflniahoidmaaGreat
open Go.RowKit


end Go.Proofs.YtdgflniahoidmaaGreat
