/- Layer 11 (lrat): Ids. -/
import Derived.Test.YtdgflniahoidmaaGreatLr8
set_option maxRecDepth 100000
namespace Go.Proofs.YtdgflniahoidmaaGreat
open Go.RowKit Go.Shelf Go.Sort Go.Maps
attribute [local go_sem] Oper.semAt_some

theorem sortsA (m : Nat) : AnyZI.SortsIn Tryz.prog Tryz.sortedA_ren Fence.wide m :=
  ⟨fun blk off cap ss W hH hblk hsz => callsIn_wide.2 (Tryz.slices_Sort_int blk off cap ss W hH hblk hsz),
   fun p cap W => callsIn_wide.2 (Tryz.slices_Sort_int_none p cap W)⟩

theorem getR_ids {R : List (Int × List Int)} (h : Rises R) (x : Int) : (getR R x).isSome = true ↔ x ∈ idsR R := by
  constructor
  · intro e
    obtain ⟨c, hc⟩ := Option.isSome_iff_exists.1 e
    exact List.mem_map.2 ⟨_, getR_mem hc, rfl⟩
  · intro e
    obtain ⟨p, hp, rfl⟩ := List.mem_map.1 e
    rw [getR_of h p hp]; rfl
theorem idsR_nodup {R : List (Int × List Int)} (h : Rises R) : (idsR R).Nodup := List.Pairwise.imp (fun h e => by rw [e] at h; omega) h
theorem idsR_sorted {R : List (Int × List Int)} (h : Rises R) : (idsR R).mergeSort (fun x y => decide (x ≤ y)) = idsR R :=
  List.mergeSort_of_pairwise (List.Pairwise.imp (fun h => by simp; omega) h)

/-- A checker's map, for its keys. -/
theorem MapC.keys {w : World} {b : Nat} {n : Int} {R : List (Int × List Int)} (h : MapC w b n R) (hr : Rises R) (hn : n ≤ 10000000) (hb : ∀ p ∈ R, 1 ≤ p.1 ∧ p.1 ≤ n) :
    ∃ (k : Nat) (D : DataW Value), w.ownsMap Tryz.prog 3 asIs b k D ∧ Maps.size D ≤ 10000000 ∧ (idsR R).Perm (intKeys D) := by
  obtain ⟨k, f, hk, ⟨D, h1, h2, h3⟩, h4⟩ := h
  refine ⟨k, D, h1, Nat.le_trans h1.size_le (by omega), ?_⟩
  refine CollectedI.perm (left := fun _ => false) ⟨idsR_nodup hr, fun x => ?_⟩ h1 keyInt Tryz.underlying3 (fun _ => rfl)
  have hiff : ∀ y, (f y).isSome = (getR R y).isSome := fun y => by
    have := h4 y
    cases hf : f y <;> cases hg : getR R y <;> rw [hf, hg] at this
    · rfl
    · exact this.elim
    · exact this.elim
    · rfl
  by_cases hx : -9223372036854775808 ≤ x ∧ x ≤ 9223372036854775807
  · rw [(h3 x hx.1 hx.2).1, hiff, ← getR_ids hr]; simp
  · constructor
    · intro hm
      obtain ⟨p, hp, rfl⟩ := List.mem_map.1 hm
      have := hb p hp
      omega
    · rintro ⟨e, _⟩
      exfalso
      obtain ⟨es, rfl, hko⟩ := h1.keysOf
      rw [has_eq, List.any_eq_true] at e
      obtain ⟨p, hp, hs⟩ := e
      obtain ⟨v, hv⟩ := hko p hp
      obtain ⟨y, _, hy, hl⟩ := Maps.keyOf_i64 Tryz.underlying3 hv
      rw [hy] at hs
      have : y = x := by simpa [Lit.sameKey] using hs
      subst this
      simp [Lit.wf] at hl
      have m1 : IntKind.i64.min = -9223372036854775808 := rfl
      have m2 : IntKind.i64.max = 9223372036854775807 := rfl
      omega

set_option maxHeartbeats 2000000 in
theorem ids_c (w : World) (p b : Nat) (S : CSt) (h : CMem w p b S) (hi : Inv11 S) :
    Calls Tryz.prog 15 #[.pointer (some ⟨p, 0, none⟩)] w fun e w' => ∃ v, e = .returned v ∧ OwnI w' w.heap.size v (idsR S.rows) ∧ Ext w w' := by
  refine (callsIn_wide (n := 6)).1 ?_
  have c0 := h.blk.cell 0
  have hlow := hi.low
  obtain ⟨k, D, hown, hsz, hperm⟩ := h.map.keys hi.rise hlow.2 hi.ids
  have hbl := hown.lt
  have HP := Lib.hid hperm
  have HR := Lib.hid hi.rise
  have hseq : SeqGives Fence.wide 2 Tryz.prog 57 #[.pointer (some ⟨w.heap.size, 0, none⟩)] encZ (fun ss => ss.Perm (intKeys D)) (Maps.size D) (w.alloc (.cells #[.map (some b)] 56)) :=
    AnyZI.keys_gives (ρ := Tryz.keysA_ren) { Tryz.keysA with } Fence.wide _ trivial rfl (by omega) w.heap.size b k D _ (by simp) (by simp) (by
      obtain ⟨es, clock, hb, Ft, hs, hD⟩ := hown
      exact ⟨es, clock, (Below.heap_alloc _ _ b hbl).trans hb, Ft, hs, hD⟩)
  have cM : CallsIn Fence.wide 5 Tryz.prog 24 #[.pointer (some ⟨p, 0, none⟩)] w fun e w' => e = .returned (.bool true) ∧ w = w' := callsIn_wide.2 (made_c w p b S h)
  have cK : ∀ mb W, CallsIn Fence.wide 5 Tryz.prog 36 #[.map mb] W fun e w' => e = .returned (.func (.func 57) #[] #[.pointer (some ⟨W.heap.size, 0, none⟩)]) ∧ w' = W.alloc (.cells #[.map mb] 56) := fun mb W => AnyZI.keys_in Tryz.keysA Fence.wide 5 trivial rfl mb W
  have cS := AnyZI.sorted_in Tryz.sortedA Fence.wide 5 trivial trivial trivial trivial rfl (by omega) (sortsA _) (enters_of Tryz.func56 (by kernel_rfl) rfl) 57 #[.pointer (some ⟨w.heap.size, 0, none⟩)] trivial (enters_of Tryz.func57 (by kernel_rfl) rfl) _ _ (by unfold maxLen; omega) (by omega) _ hseq
  change CallsIn _ _ Tryz.prog 35 _ _ _ at cS
  have hfK : Fence.wide.fn 36 := trivial
  have hfS : Fence.wide.fn 35 := trivial
  have hfM : Fence.wide.fn 24 := trivial
  clear hperm hi h
  refine callsIn_of_wp Tryz.func15 rfl trivial ?_ rfl
  simp only [Tryz.ntmps15, List.size_toArray, List.length_cons, List.length_nil, Nat.reduceAdd, Nat.reduceSub, Array.replicate_succ, Array.replicate_zero, List.push_toArray, List.append_toArray, List.nil_append, List.cons_append]
  gi_wp2_with (first
    | (gi_at_call 24; refine cM.mono ?_; rintro e w' ⟨rfl, rfl⟩)
    | (gi_at_call 36; refine (cK _ _).mono ?_; rintro e w' ⟨rfl, rfl⟩)
    | (gi_at_call 35; refine cS.mono ?_; rintro e w' ⟨v, ss, rfl, hS, hrow, hnil, hb⟩))
  go_ret
  refine ⟨v, rfl, ?_, ((Below.refl _ w).alloc (Nat.le_refl _) _).trans (hb.mono (by simp))⟩
  have e1 := (mergeSort_of_perm_i (hS.trans HP.out.symm)).trans (idsR_sorted HR.out)
  have e2 := hS.length_eq.trans HP.out.length_eq.symm
  rw [show (ss.mergeSort fun x y => decide (x ≤ y)) = idsR S.rows from e1, e2] at hrow
  exact ownsRow_base_a hrow (by simp)
end Go.Proofs.YtdgflniahoidmaaGreat
