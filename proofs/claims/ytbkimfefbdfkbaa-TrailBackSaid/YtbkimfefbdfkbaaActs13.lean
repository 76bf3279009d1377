/- The acts of layer 13, as an argument. -/
import Derived.Test.YtbkimfefbdfkbaaTrail14
set_option maxRecDepth 100000
namespace Go.Proofs.Ytbkimfefbdfkbaa
open Go.RowKit

def encA (a : ActT) : List Value := [.int .i64 a.kind, .int .i64 a.num, .int .i64 a.reason]
theorem encA_len (a : ActT) : (encA a).length = 3 := rfl
def okA (a : ActT) : Prop := (-9223372036854775808 ≤ a.kind ∧ a.kind ≤ 9223372036854775807) ∧ (-9223372036854775808 ≤ a.num ∧ a.num ≤ 9223372036854775807) ∧ (-9223372036854775808 ≤ a.reason ∧ a.reason ≤ 9223372036854775807)
def ActsSl (w : World) (A : Option Addr) (n : Nat) (l : List ActT) : Prop := SlV w A n 3 (l.flatMap encA) ∧ l.length = n ∧ ∀ a ∈ l, okA a
theorem add_pos (a : Addr) (i j : Nat) (hj : j ≠ 0) : a.add (i + j) = ⟨(a.add i).block, (a.add i).off + j, none⟩ := by
  rw [← Addr.add_add]
  generalize a.add i = b
  unfold Addr.add
  rw [if_neg hj]
section
variable {w w' : World} {A : Option Addr} {n : Nat} {l : List ActT}
theorem ActsSl.ext (h : ActsSl w A n l) (hx : Ext w w') : ActsSl w' A n l := ⟨h.1.ext hx, h.2⟩
theorem ActsSl.at_ (h : ActsSl w A n l) {k : Nat} (hk : k < n) : ∃ ad a, A = some ad ∧ Hid (l[k]? = some a) ∧ okA a ∧ w.cell? (ad.add (k * 3)) = some (.int .i64 a.kind) ∧ w.cell? ⟨(ad.add (k * 3)).block, (ad.add (k * 3)).off + 1, none⟩ = some (.int .i64 a.num) ∧ w.cell? ⟨(ad.add (k * 3)).block, (ad.add (k * 3)).off + 2, none⟩ = some (.int .i64 a.reason) := by
  obtain ⟨ad, rfl, hc⟩ := h.1.2.2 (by omega)
  have hl : k < l.length := by rw [h.2.1]; exact hk
  have hr : l[k]? = some l[k] := List.getElem?_eq_getElem hl
  exact ⟨ad, _, rfl, Lib.hid hr, h.2.2 _ (List.getElem_mem hl), hc _ _ (flat_get encA_len hr (k := 0) (by decide)), by rw [← add_pos _ _ _ (by decide)]; exact hc _ _ (flat_get encA_len hr (k := 1) (by decide)), by rw [← add_pos _ _ _ (by decide)]; exact hc _ _ (flat_get encA_len hr (k := 2) (by decide))⟩
end
theorem doS_inv {S : TSt} (h : TInv S) {a : ActT} (ha : okA a) : TInv (doS S a) := by
  unfold doS
  split
  · exact h.dec _
  · split
    · exact h.imp _ ha.2.2.2
    · exact h.back _
theorem doS_vars (S : TSt) (a : ActT) : (doS S a).vars = S.vars := by
  unfold doS
  split
  · exact vars_dec _ _
  · split
    · exact vars_imp _ _ _
    · rfl
theorem doL_len (S : TSt) (a : ActT) : (doL S a).length ≤ S.rows.length := by
  unfold doL
  split
  · simp
  · split
    · simp
    · unfold backO litsT beyond
      rw [List.length_reverse, List.length_map]
      exact List.length_filter_le _ _
theorem doL_bd {S : TSt} (h : TInv S) (a : ActT) : ∀ x ∈ doL S a, -9223372036854775808 ≤ x ∧ x ≤ 9223372036854775807 := by
  unfold doL
  split
  · simp
  · split
    · simp
    · intro x hx
      unfold backO litsT at hx
      rw [List.mem_reverse] at hx
      obtain ⟨r, hr, rfl⟩ := List.mem_map.1 hx
      have := check_var (h.lits r (List.mem_filter.1 hr).1)
      omega
end Go.Proofs.Ytbkimfefbdfkbaa
