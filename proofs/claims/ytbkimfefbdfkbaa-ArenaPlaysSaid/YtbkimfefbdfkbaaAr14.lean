/- Layer 12 (arena), in plain Lean: what is squeezed keeps its clauses; a swap keeps the other rows. -/
import Derived.Test.YtbkimfefbdfkbaaAr11
set_option maxRecDepth 100000
namespace Go.Proofs.Ytbkimfefbdfkbaa

theorem allA_at (rows : List ARow) (j : Nat) : (allA rows)[j]? = (liveR rows)[j]?.map ARow.pos := by
  show (List.map ARow.pos (liveR rows))[j]? = _
  rw [List.getElem?_map]
theorem allA_length (rows : List ARow) : (allA rows).length = (liveR rows).length := by
  show (List.map ARow.pos (liveR rows)).length = _
  rw [List.length_map]
theorem find_live {S : ASt} (h : AInv S) {j : Nat} {r : ARow} (hj : (liveR S.rows)[j]? = some r) : S.rows.find? (atP r.pos) = some r := by
  obtain ⟨i, hi, _, hl⟩ := live_at hj
  exact (find_iff h).2 ⟨i, hi, rfl, hl⟩
theorem headA_of {rows : List ARow} {x : Int} {r : ARow} (h : rows.find? (atP x) = some r) : headA rows x = r.id := by unfold headA; rw [h]
theorem litsA_of {rows : List ARow} {x : Int} {r : ARow} (h : rows.find? (atP x) = some r) : litsA rows x = r.lits := by unfold litsA; rw [h]
theorem learntA_of {rows : List ARow} {x : Int} {r : ARow} (h : rows.find? (atP x) = some r) : learntA rows x = r.learnt := by unfold learntA; rw [h]
/-- Where row j of R is laid. -/
def offA (R : List ARow) (j : Nat) : Nat := (flatA (R.take j)).length
theorem offA_zero (R : List ARow) : offA R 0 = 0 := by simp [offA, flatA]
theorem offA_succ {R : List ARow} {j : Nat} {r : ARow} (h : R[j]? = some r) : offA R (j + 1) = offA R j + (3 + r.lits.length) := by
  unfold offA
  rw [take_succ_of h, flatA_app, List.length_append, show flatA [r] = encR r by simp [flatA], encR_len]
  omega
theorem offA_le {R : List ARow} {j : Nat} : offA R j ≤ (flatA R).length := by
  unfold offA
  have e := congrArg flatA (List.take_append_drop j R)
  rw [flatA_app] at e
  rw [← e, List.length_append]; omega
theorem compS_size (S : ASt) : (compS S).size = (offA (liveR S.rows) (liveR S.rows).length : Nat) := by
  unfold compS offA
  simp only [pack_flat, List.take_length]
structure Keep3 (R : List ARow) (i : Nat) (T : ASt) : Prop where
  len : T.rows.length = R.length
  at_ : ∀ (j : Nat) (r : ARow), R[j]? = some r → ∃ r', T.rows[j]? = some r' ∧ r'.pos = (offA R j : Nat) ∧ r'.live = true ∧ r'.id = r.id ∧ r'.learnt = r.learnt ∧ (i ≤ j → r'.lits = r.lits)
theorem keep3_start (S : ASt) : Keep3 (liveR S.rows) 0 (compS S) := by
  refine ⟨pack_len S.rows 0, fun j r hr => ?_⟩
  obtain ⟨_, _, _, hl⟩ := live_at hr
  refine ⟨{ r with pos := 0 + ((flatA ((liveR S.rows).take j)).length : Nat) }, by show (packA S.rows 0)[j]? = _; rw [pack_get, hr]; rfl, ?_, hl, rfl, rfl, fun _ => rfl⟩
  simp [offA]
theorem Keep3.live {R : List ARow} {i : Nat} {T : ASt} (h : Keep3 R i T) : liveR T.rows = T.rows := by
  refine List.filter_eq_self.2 fun a ha => ?_
  obtain ⟨j, hj⟩ := List.mem_iff_getElem?.1 ha
  have hl := (List.getElem?_eq_some_iff.1 hj).1
  rw [h.len] at hl
  obtain ⟨r', h1, _, h2, _⟩ := h.at_ j _ (List.getElem?_eq_getElem hl)
  rw [hj] at h1; cases h1; exact h2
theorem Keep3.all_len {R : List ARow} {i : Nat} {T : ASt} (h : Keep3 R i T) : (allA T.rows).length = R.length := by rw [allA_length, h.live, h.len]
theorem Keep3.all_get {R : List ARow} {i : Nat} {T : ASt} (h : Keep3 R i T) {j : Nat} {r : ARow} (hr : R[j]? = some r) : (allA T.rows)[j]? = some (offA R j : Int) := by
  obtain ⟨r', h1, h2, _⟩ := h.at_ j r hr
  rw [allA_at, h.live, h1]; simp [h2]
theorem Keep3.find {R : List ARow} {i : Nat} {T : ASt} (h : Keep3 R i T) (hT : AInv T) {j : Nat} {r : ARow} (hr : R[j]? = some r) : ∃ r', T.rows[j]? = some r' ∧ T.rows.find? (atP (offA R j : Nat)) = some r' ∧ r'.id = r.id ∧ r'.learnt = r.learnt ∧ (i ≤ j → r'.lits = r.lits) := by
  obtain ⟨r', h1, h2, h3, h4, h5, h6⟩ := h.at_ j r hr
  exact ⟨r', h1, (find_iff hT).2 ⟨j, h1, h2, h3⟩, h4, h5, h6⟩
theorem Keep3.next {R : List ARow} {i : Nat} {T : ASt} (h : Keep3 R i T) : Keep3 R (i + 1) T :=
  ⟨h.len, fun j r hr => by obtain ⟨r', h1, h2, h3, h4, h5, h6⟩ := h.at_ j r hr; exact ⟨r', h1, h2, h3, h4, h5, fun hj => h6 (by omega)⟩⟩
theorem Keep3.swap {R : List ARow} {i : Nat} {T : ASt} (h : Keep3 R i T) (hT : AInv T) {r : ARow} (hr : R[i]? = some r) (hl : 1 < r.lits.length) : swapE T (offA R i : Nat) 0 1 = 0 ∧ Keep3 R (i + 1) (swapS T (offA R i : Nat) 0 1) ∧ ∃ r'', (swapS T (offA R i : Nat) 0 1).rows[i]? = some r'' ∧ r''.lits = swapL r.lits 0 1 := by
  obtain ⟨r', h1, h2, h3, h4, h5⟩ := h.find hT hr
  have hlits := h5 (Nat.le_refl _)
  have hE : swapE T (offA R i : Nat) 0 1 = 0 := by
    unfold swapE
    rw [h2]
    simp only [hlits]
    rw [if_neg (by omega)]
  obtain ⟨k, hk, hk1, hk2, hk3⟩ := find_at h2
  obtain ⟨r0, g1, g2, g3, _⟩ := h.at_ i r hr
  rw [h1] at g1; cases g1
  have hki : k = i := hT.inj hk1 h1 rfl
  subst hki
  have hi := (List.getElem?_eq_some_iff.1 h1).1
  have hS : swapS T (offA R k : Nat) 0 1 = ⟨T.rows.set k { r' with lits := swapL r'.lits 0 1 }, T.size⟩ := by
    unfold swapS stepAt
    rw [if_pos hE, hk]
    simp only [h1]
    rfl
  refine ⟨hE, ?_, ?_⟩
  · rw [hS]
    refine ⟨by simp [h.len], fun j q hq => ?_⟩
    obtain ⟨q', e1, e2, e3, e4, e5, e6⟩ := h.at_ j q hq
    by_cases hjk : k = j
    · subst hjk
      rw [h1] at e1; cases e1
      exact ⟨_, List.getElem?_set_self hi, e2, e3, e4, e5, fun hh => by omega⟩
    · exact ⟨q', by rw [List.getElem?_set_ne hjk]; exact e1, e2, e3, e4, e5, fun hh => e6 (by omega)⟩
  · rw [hS]
    exact ⟨_, List.getElem?_set_self hi, by rw [hlits]⟩
theorem off_le_pos {S : ASt} (h : AInv S) {j : Nat} {r : ARow} (hj : (liveR S.rows)[j]? = some r) : (offA (liveR S.rows) j : Int) ≤ r.pos := by
  obtain ⟨i, hi, ht, _⟩ := live_at hj
  rw [h.pos i r hi]
  unfold offA
  rw [ht]
  have := live_flat_le (S.rows.take i)
  omega
end Go.Proofs.Ytbkimfefbdfkbaa
