/- Layer 22 (brute): All; law22.all. -/
import Derived.Test.YtdiapihfjmbgoaaBr11
set_option maxRecDepth 100000
namespace Go.Proofs.Ytdiapihfjmbgoaa
open Go.RowKit Go.Shelf

/-- A slice of truths. -/
def BRows (w : World) (A : Option Addr) (n : Nat) (Ms : List (List Bool)) : Prop :=
  Ms.length = n ∧ n ≤ 9223372036854775807 ∧ (0 < n → ∃ ad, A = some ad ∧ ∀ (j : Nat) (m : List Bool), Ms[j]? = some m → ∃ A' n' c', w.cell? (ad.add j) = some (.slice A' n' c') ∧ BoolSl w A' n' m)
theorem BRows.ext {w w' : World} {A : Option Addr} {n : Nat} {Ms : List (List Bool)} (h : BRows w A n Ms) (hx : Ext w w') : BRows w' A n Ms :=
  ⟨h.1, h.2.1, fun hn => let ⟨ad, e, hc⟩ := h.2.2 hn; ⟨ad, e, fun j m hj => let ⟨A', n', c', h1, h2⟩ := hc j m hj; ⟨A', n', c', hx.cell h1, h2.ext hx⟩⟩⟩
theorem BRows.nil (w : World) : BRows w none 0 [] := ⟨rfl, by decide, fun h => absurd h (by omega)⟩
theorem BRows.at_ {w : World} {A : Option Addr} {n : Nat} {Ms : List (List Bool)} (h : BRows w A n Ms) {k : Nat} (hk : k < n) : ∃ ad m A' n' c', A = some ad ∧ Hid (Ms[k]? = some m) ∧ w.cell? (ad.add k) = some (.slice A' n' c') ∧ Hid (BoolSl w A' n' m) := by
  obtain ⟨ad, e, hc⟩ := h.2.2 (by omega)
  have hl : k < Ms.length := by have := h.1; omega
  have hx : Ms[k]? = some Ms[k] := List.getElem?_eq_getElem hl
  obtain ⟨A', n', c', h1, h2⟩ := hc k _ hx
  exact ⟨ad, Ms[k], A', n', c', e, Lib.hid hx, h1, Lib.hid h2⟩
theorem JA.rows {O M base : Nat} {most : Int} {n : Nat} {pre : List S16} {W : World} (h : JA O M base most n pre W) (hl : pre.length ≤ 1000000) : ∃ A k c, W.cell? ⟨O, 0, none⟩ = some (.slice A k c) ∧ BRows W A k (pre.map fun x => bitsV x.1 n) := by
  obtain ⟨u, vs, h1, h2, h3, h4, _⟩ := h
  obtain ⟨A, c, rfl, hs, _⟩ := OwnV.sl (us := vs) h2 (by omega)
  refine ⟨A, vs.length, c, h1.cell, by simp [h3], by omega, fun h0 => ?_⟩
  obtain ⟨ad, e, hc⟩ := hs.2.2 h0
  refine ⟨ad, e, fun j m hj => ?_⟩
  rw [List.getElem?_map] at hj
  obtain ⟨x, hx, rfl⟩ := Option.map_eq_some_iff.1 hj
  obtain ⟨A', k', c', e1, hr⟩ := h4 j x hx
  exact ⟨A', k', c', hc j _ e1, hr.sl⟩

theorem all0_c (v : Int) (A : Option Addr) (n c : Nat) (w : World) : Calls Try.prog 30 #[.agg #[.int .i64 v, .slice A n c]] w fun e w' => ∃ g, e = .returned (.func (.func 48) #[] #[.pointer (some ⟨g, 0, none⟩)]) ∧ Blk w' g 24 #[.int .i64 v, .slice A n c] ∧ Ext w w' := by
  go_enter Try.func30, Try.ntmps30
  go_wp2
  go_ret
  exact ⟨_, rfl, Blk.new w _ _, (Ext.refl w).alloc _⟩
/-- What is told where so many are wanted. -/
def toldV (v : Int) (L : List (List Int)) (most : Int) : List (List Bool) := (modelsV v L).take (max 1 most).toNat

theorem run_equal_func_nil {P : Program} (w : World) {t : TypeId} {ps rs : Array TypeId} {va : Bool} (hu : P.underlying t = some (.func ps rs va)) (f : Fn) (cs : Array Value) (lb : Array Value) : (Op.equal t (.func f cs lb) .nilFunc).run P w = .ok false w := by
  have h : ∀ d : Nat, (Op.equalIn (d + 1) t (.func f cs lb) .nilFunc).run P w = .ok false w := fun d => by
    simp [Op.equalIn, run_underlying hu]
  exact h 9999
theorem eql_nilF (w : World) (f : Fn) (cs lb : Array Value) : Sem.run Try.prog (binOp .eql 63 (.func f cs lb) .nilFunc) w = .ok (.bool false) w := by
  have h := run_equal_func_nil w Try.underlying63 f cs lb
  simp [binOp, h]

set_option maxHeartbeats 2000000 in
theorem lawAll_c (v : Int) (A : Option Addr) (nn c : Nat) (L : List (List Int)) (most : Int) (w : World) (hR : RowsSl w A nn L) (hsm : nn ≤ 1000000) :
    Calls Try.prog 15 #[.agg #[.int .i64 v, .slice A nn c], .int .i64 most] w fun e w' => ∃ A' n' c', e = .returned (.slice A' n' c') ∧ BRows w' A' n' (toldV v L most) ∧ Ext w w' := by
  have HX := Lib.hid ((((Ext.refl w).alloc (Obj.cells #[.int .i64 v, .slice A nn c] 24)).alloc (Obj.cells #[.int .i64 most] 3)).alloc (Obj.cells #[.slice none 0 0] 27))
  have hM := (Boxed.new (w.alloc (Obj.cells #[.int .i64 v, .slice A nn c] 24)) 3 (.int .i64 most)).alloc (Obj.cells #[.slice none 0 0] 27)
  have hO := Boxed.new ((w.alloc (Obj.cells #[.int .i64 v, .slice A nn c] 24)).alloc (Obj.cells #[.int .i64 most] 3)) 27 (.slice none 0 0)
  rw [World.size_alloc] at hM
  rw [World.size_alloc, World.size_alloc] at hO
  have HJ := Lib.hid (show JA (w.heap.size + 1 + 1) (w.heap.size + 1) w.heap.size most v.toNat [] _ from ⟨_, [], hO, World.ownsRow_nil _ _ _ _, rfl, fun j x h => by simp at h, hM⟩)
  clear hM hO
  go_enter Try.func15, Try.ntmps15
  go_wp2_with fail
  refine (all0_c v A nn c _).mono ?_
  rintro e w1 ⟨g, rfl, hg, hx1⟩
  have HG := Lib.hid hg
  have HX1 := Lib.hid hx1
  clear hg hx1
  have hq := eql_nilF w1 (.func 48) #[] #[.pointer (some ⟨g, 0, none⟩)]
  go_wp2_with fail
  refine (allTell_c g (w.heap.size + 1 + 1) (w.heap.size + 1) w.heap.size v A nn c L most _ hsm HG.out (hR.ext (HX.out.trans HX1.out)) (by omega) (HX.out.trans HX1.out).size_le (HJ.out.ext HX1.out)).mono ?_
  rintro e w2 ⟨rfl, pre, hp, hJ, hB⟩
  obtain ⟨A', k, c', hc, hrows⟩ := hJ.rows (by
    have h1 : (pre.map Subtype.val).length = ((setsV v L).take (max 1 most).toNat).length := by rw [hp]
    rw [List.length_map, List.length_take] at h1
    have := setsV_len v L
    omega)
  have HT : Hid (pre.map (fun x => bitsV x.1 v.toNat) = toldV v L most) := by
    unfold Hid toldV modelsV
    rw [← List.map_take, ← hp, List.map_map]
    rfl
  have HR := Lib.hid hrows
  have HB := Lib.hid (show Ext w w2 from Below.trans (show Below w.heap.size w w1 from HX.out.trans HX1.out) hB)
  clear hJ hrows hp hB
  go_wp2
  go_ret
  exact ⟨_, _, _, rfl, by rw [← HT.out]; exact HR.out, HB.out⟩
end Go.Proofs.Ytdiapihfjmbgoaa
