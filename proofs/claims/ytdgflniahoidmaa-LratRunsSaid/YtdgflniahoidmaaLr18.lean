/- Layer 11 (lrat): New. -/
import Derived.Test.YtdgflniahoidmaaLr17
import Derived.Test.YtdgflniahoidmaaCnf3
set_option maxRecDepth 100000
namespace Go.Proofs.Ytdgflniahoidmaa
open Go.RowKit Go.Maps

/-- What New hands back. -/
def RetNew (v : Int) (L : List (List Int)) (w : World) (e : Ending) (w' : World) : Prop :=
  if (fCheckV v L).2 ≠ 0 then e = .returned (.tuple #[.pointer none, .int .i64 (fCheckV v L).2]) ∧ Ext w w'
  else ∃ p b, e = .returned (.tuple #[.pointer (some ⟨p, 0, none⟩), .int .i64 0]) ∧ CMem w' p b (newS L) ∧ w.heap.size ≤ p ∧ w.heap.size ≤ b ∧ Ext w w'
theorem newS_take {L : List (List Int)} {k : Nat} {l : List Int} (h : L[k]? = some l) : newS (L.take (k + 1)) = putR (newS (L.take k)) ((newS (L.take k)).last + 1) l := by rw [take_succ_of h, newS_snoc]

theorem newS_inv2 {L : List (List Int)} (hn : L.length ≤ 1000000) (key : ∀ c ∈ L, c.length ≤ 1000 ∧ ∀ x ∈ c, -100000 ≤ x ∧ x ≤ 100000) : Inv11 (newS L) := by
  revert hn key
  refine snoc_ind11 (P := fun L => L.length ≤ 1000000 → (∀ c ∈ L, c.length ≤ 1000 ∧ ∀ x ∈ c, -100000 ≤ x ∧ x ≤ 100000) → Inv11 (newS L)) ?_ ?_ L
  · exact fun _ _ => ⟨List.Pairwise.nil, by decide, fun p hp => (by cases hp), fun p hp => (by cases hp)⟩
  · intro L c ih hn hc
    have hlast := newS_last L
    rw [List.length_append] at hn
    simp at hn
    obtain ⟨h1, h2⟩ := hc c (by simp)
    rw [newS_snoc]
    exact (ih (by omega) (fun d hd => hc d (List.mem_append_left _ hd))).put (by omega) (by omega) h1 h2

set_option maxHeartbeats 4000000 in
theorem new_c (v : Int) (A : Option Addr) (n c : Nat) (L : List (List Int)) (w : World) (h : RowsSl w A n L) (hsm : n ≤ 1000000) :
    Calls Try.prog 9 #[.agg #[.int .i64 v, .slice A n c]] w (RetNew v L w) := by
  have HX0 := Lib.hid ((Ext.refl w).alloc (Obj.cells #[.int .i64 v, .slice A n c] 24))
  have HB0 := Lib.hid (Blk.new w 24 #[.int .i64 v, .slice A n c])
  have HS := Lib.hid h
  have HLN := Lib.hid h.1
  clear h
  obtain ⟨⟨f1, f2⟩, hf⟩ : ∃ r, fCheckV v L = r := ⟨_, rfl⟩
  have HF := Lib.hid hf
  have b1 := HB0.out.cell 1
  by_cases h2 : f2 = 0
  · subst h2
    obtain ⟨hv, hcl⟩ := fCheckV_ok (v := v) (L := L) (by rw [hf])
    have hkey : ∀ c ∈ L, c.length ≤ 1000 ∧ ∀ x ∈ c, -100000 ≤ x ∧ x ≤ 100000 := fun c hm => by
      obtain ⟨h1, h2⟩ := ccheck_lits hv.2 (hcl c hm).1
      exact ⟨h1, fun x hx => (h2 x hx).1⟩
    have hinv : ∀ k, Inv11 (newS (L.take k)) := fun k => newS_inv2 (by rw [List.length_take, HLN.out]; omega) (fun c hc => hkey c (List.mem_of_mem_take hc))
    have HINV := Lib.hid hinv
    have HKEY := Lib.hid hkey
    have hmm := fun (n : Int) (W : World) => run_makeMap_hint (P := Try.prog) 53 3 40 .i64 n Try.underlying53 W
    clear hf hv hcl hkey hinv b1
    go_enter Try.func9, Try.ntmps9
    go_wp2_with fail
    refine (cnfCheck_c v _ _ _ L _ (HS.out.ext HX0.out)).mono ?_
    rintro e w1 ⟨rfl, hx1⟩
    rw [HF.out]
    have HX1 := Lib.hid (HX0.out.trans hx1)
    have HB1 := Lib.hid (HB0.out.ext hx1)
    have b1 := HB1.out.cell 1
    have b1' := fun o1 o2 => (HB1.out.ext (((Ext.refl w1).alloc o1).alloc o2)).cell 1
    clear hx1
    go_wp2_with fail
    clear b1 b1' hmm
    go_loopw [26] (fun i wr => ∃ k : Nat, k ≤ n ∧ i = .int .i64 k ∧ CMem wr (w1.heap.size + 1) w1.heap.size (newS (L.take k)) ∧ Ext w1 wr) (fun i _ => n - (intOf i).toNat)
    case atStart =>
      refine ⟨0, Nat.zero_le _, rfl, ⟨Blk.newg2 _ _ (by simp), ⟨0, fun _ => none, Int.le_refl _, (MapV.made w1).ext ((Ext.refl _).alloc _), fun _ => trivial⟩⟩, ((Ext.refl _).alloc _).alloc _⟩
    case round =>
      obtain ⟨k, hk, rfl, hc, hx⟩ := hrel
      have HC := Lib.hid hc
      have HX := Lib.hid hx
      have HXW := Lib.hid (HX1.out.trans hx)
      have d0 := hc.blk.cell 0
      have d1 := hc.blk.cell 1
      have hl0 : (newS (L.take k)).last = k := by rw [newS_last, List.length_take, HLN.out]; congr 1; omega
      rw [hl0] at d1
      have HL0 := Lib.hid hl0
      clear hc hx hl0
      by_cases hlt : k < n
      · obtain ⟨ad, ys, A5, n5, c5, rfl, hy, hcy, hrow⟩ := (HS.out.ext HXW.out).at_ hlt
        have hyk := HKEY.out ys (List.mem_of_getElem? hy.out)
        have hn5 : n5 ≤ 1000 := by have := hrow.1; omega
        have HY := Lib.hid hy.out
        have HROW := Lib.hid hrow
        have hk9 : (k : Int) + 1 ≤ 9223372036854775807 := by omega
        clear hyk hrow
        go_wp2_with fail
        refine (put_c _ _ _ (newS (L.take k)) ((k : Int) + 1) _ _ _ ys HC.out (HINV.out k) HROW.out (by rw [HL0.out]; omega) (by omega) hn5).mono ?_
        rintro e w4 ⟨rfl, hm4, hst4⟩
        have HM4 : Hid (CMem w4 (w1.heap.size + 1) w1.heap.size (newS (L.take (k + 1)))) := by
          unfold Hid
          rw [newS_take HY.out, HL0.out]; exact hm4
        have HX4 : Hid (Ext w1 w4) := HX.out.then_stay hst4 (fun j e => by rcases e with e | e <;> subst e <;> omega)
        clear hm4 hst4
        go_wp2_with fail
        go_roundw
        case rel => exact ⟨k + 1, by omega, by go_num, HM4.out, HX4.out⟩
        case measure => simp [intOf]; omega
      · have hkn : k = n := by omega
        subst hkn
        have HN : Hid (newS (L.take k) = newS L) := by unfold Hid; rw [List.take_of_length_le (by rw [HLN.out]; exact Nat.le_refl _)]
        go_wp2_with fail
        go_ret2
        unfold RetNew
        rw [HF.out, if_neg (by simp)]
        refine ⟨w1.heap.size + 1, w1.heap.size, rfl, by rw [← HN.out]; exact HC.out, ?_, ?_, HXW.out⟩
        · have := HX1.out.size_le; omega
        · exact HX1.out.size_le
  · have hb : (f2 == 0) = false := by simpa using h2
    clear hf b1
    go_enter Try.func9, Try.ntmps9
    go_wp2_with fail
    refine (cnfCheck_c v _ _ _ L _ (HS.out.ext HX0.out)).mono ?_
    rintro e w1 ⟨rfl, hx1⟩
    rw [HF.out]
    have HX1 := Lib.hid (HX0.out.trans hx1)
    clear hx1
    go_wp2_with fail
    go_ret2
    unfold RetNew
    rw [HF.out, if_pos h2]
    exact ⟨rfl, HX1.out⟩
end Go.Proofs.Ytdgflniahoidmaa
