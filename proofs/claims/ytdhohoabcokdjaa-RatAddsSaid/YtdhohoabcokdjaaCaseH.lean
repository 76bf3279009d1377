/- replevinlaw09.Case.hints: what a store into a map leaves. -/
import Derived.Test.YtdhohoabcokdjaaCase
import Derived.Test.YtdhohoabcokdjaaMapV
import Derived.Test.YtdhohoabcokdjaaCnf4
set_option maxRecDepth 100000
namespace Go.Proofs.Ytdhohoabcokdjaa
open Go.RowKit Go.Maps

/-- A cell is no map's. -/
theorem MapV.cell_kept {w w' : World} {b k : Nat} {f : Int → Option Value} (h : MapV w b k f) (hg : w.grownBy w' (some b)) {p : Addr} {v : Value} (hp : w.cell? p = some v) : w'.cell? p = some v := by
  have hlt := World.block_lt_of_cell? w p hp
  have hne : p.block ≠ b := by
    rintro e
    obtain ⟨D, ⟨es, cl, hb, _⟩, _⟩ := h
    rw [← e] at hb
    simp [World.cell?, hb] at hp
  have hb := hg.block p.block hlt (by intro e; injection e with e; exact hne e)
  rw [← hp]
  simp only [World.cell?, hb]
theorem MapV.int_kept {w w' : World} {b k : Nat} {f : Int → Option Value} (h : MapV w b k f) (hg : w.grownBy w' (some b)) {A : Option Addr} {n : Nat} {xs : List Int} (hs : IntSl w A n xs) : IntSl w' A n xs := by
  refine ⟨hs.1, hs.2.1, hs.2.2.1, fun hn => ?_⟩
  obtain ⟨ad, e, hc⟩ := hs.2.2.2 hn
  exact ⟨ad, e, fun j x hj => h.cell_kept hg (hc j x hj)⟩
theorem MapV.rows_kept {w w' : World} {b k : Nat} {f : Int → Option Value} (h : MapV w b k f) (hg : w.grownBy w' (some b)) {A : Option Addr} {n : Nat} {L : List (List Int)} (hs : RowsSl w A n L) : RowsSl w' A n L := by
  refine ⟨hs.1, hs.2.1, fun hn => ?_⟩
  obtain ⟨ad, e, hc⟩ := hs.2.2 hn
  refine ⟨ad, e, fun j xs hj => ?_⟩
  obtain ⟨A1, n1, c1, h1, h2⟩ := hc j xs hj
  exact ⟨A1, n1, c1, h.cell_kept hg h1, h.int_kept hg h2⟩

/-- 'm[k] = v' at a step of a region that draws its order. -/
theorem step_setV (w : World) {ops : Array Oper} {o : Oper} {a : Act} {K : Act → World → Prop} {Q : Exit → Act → World → Prop} {E : Prop} (hgd : o.guard = none) (m x v : Operand) (hop : o.op = Op.mapUpdate 62 m x v)
    (b k : Nat) (f : Int → Option Value) (hm : a.eval m = .map (some b)) (hc : MapV w b k f) (hk : k ≤ 1000000000000000000) (y : Int) (z : Value) (hx : a.eval x = .int .i64 y) (hv : a.eval v = z)
    (hy : -9223372036854775808 ≤ y ∧ y ≤ 9223372036854775807)
    (h : ∀ w', MapV w' b (k + 1) (fun u => if u = y then some z else f u) → w.grownBy w' (some b) → K (a.put o.dst undef) w') :
    if Region.wanted o (yielded ops a.tmps) = true then Oper.wp Try.prog o a w K Q else E := by
  have hw : Region.wanted o (yielded ops a.tmps) = true := by simp [Region.wanted, hgd]
  rw [if_pos hw]
  obtain ⟨w', hrun, r1, r2⟩ := hc.set hk y z hy
  unfold Oper.wp
  simp [execOp, hop, hm, hx, hv, hrun, Result.andThen]
  exact h w' r1 r2

/-- Own rows of different elements never share. -/
theorem own_ne {w : World} {base base2 size size2 n n2 : Nat} {e e2 : TypeId} {u v : Value} {xs us : List Value} (h : w.ownsRow base e size u n xs) (h2 : w.ownsRow base2 e2 size2 v n2 us) (hne : e ≠ e2) : u.ownBlock = none ∨ u.ownBlock ≠ v.ownBlock := by
  rcases h2.2 with ⟨rfl, _⟩ | ⟨g, cap, cur, rfl, _, hg, _⟩
  · rcases h.2 with ⟨rfl, _⟩ | ⟨g, cap, cur, rfl, _⟩
    · exact Or.inl rfl
    · exact Or.inr (by simp [Value.ownBlock])
  · exact Or.inr (ownsRow_ne_blk h hg hne)
/-- The first j entries of the map of hints. -/
def HintM (w0 w : World) (b j : Nat) (L each : List (List Int)) : Prop :=
  ∃ f : Int → Option Value, MapV w b j f ∧ ∀ x : Int, (¬ (0 ≤ x ∧ x < (j : Int)) → f x = none) ∧ (0 ≤ x ∧ x < (j : Int) → ∃ A n c g, f x = some (.slice A n c) ∧ (rowsQ L (each.getD x.toNat [])).length ≤ 10000000 ∧ OwnR w0 w g (.slice A n c) (rowsQ L (each.getD x.toNat [])))
theorem HintM.made (w0 w : World) (L each : List (List Int)) : HintM w0 (w.alloc (.map #[] 0)) w.heap.size 0 L each :=
  ⟨_, MapV.made w, fun x => ⟨fun _ => rfl, fun h => by omega⟩⟩
theorem HintM.ext {w0 w w' : World} {b j : Nat} {L each : List (List Int)} (h : HintM w0 w b j L each) (hx : Ext w w') : HintM w0 w' b j L each := by
  obtain ⟨f, h1, h2⟩ := h
  refine ⟨f, h1.ext hx, fun x => ⟨(h2 x).1, fun hr => ?_⟩⟩
  obtain ⟨A, n, c, g, e, hn, hs⟩ := (h2 x).2 hr
  exact ⟨A, n, c, g, e, hn, hs.ext hx⟩
/-- A slice of other elements grew. -/
theorem HintM.kept {w0 w w' : World} {b j base size n : Nat} {L each : List (List Int)} {e : TypeId} {v : Value} {us : List Value} (h : HintM w0 w b j L each) (ho : w.ownsRow base e size v n us) (hne : 22 ≠ e) (hg : w.grownBy w' v.ownBlock) : HintM w0 w' b j L each := by
  obtain ⟨f, h1, h2⟩ := h
  refine ⟨f, h1.grown hg (h1.ne_own ho), fun x => ⟨(h2 x).1, fun hr => ?_⟩⟩
  obtain ⟨A, n, c, g, e, hn, hs⟩ := (h2 x).2 hr
  exact ⟨A, n, c, g, e, hn, hs.kept hg (let ⟨_, a, _, _⟩ := hs; own_ne a ho hne)⟩
/-- One entry more. -/
theorem HintM.more {w0 w w' : World} {b j : Nat} {L each : List (List Int)} {f : Int → Option Value} {A : Option Addr} {n c g : Nat} (hf : MapV w b j f)
    (h2 : ∀ x : Int, (¬ (0 ≤ x ∧ x < (j : Int)) → f x = none) ∧ (0 ≤ x ∧ x < (j : Int) → ∃ A n c g, f x = some (.slice A n c) ∧ (rowsQ L (each.getD x.toNat [])).length ≤ 10000000 ∧ OwnR w0 w g (.slice A n c) (rowsQ L (each.getD x.toNat []))))
    (hr : OwnR w0 w g (.slice A n c) (rowsQ L (each.getD j []))) (hn : (rowsQ L (each.getD j [])).length ≤ 10000000) (hg : w.grownBy w' (some b)) (hm : MapV w' b (j + 1) (fun u => if u = (j : Int) then some (.slice A n c) else f u)) : HintM w0 w' b (j + 1) L each := by
  have keep : ∀ {v : Value} {g : Nat} {M : List (List Int)}, OwnR w0 w g v M → OwnR w0 w' g v M := fun h => h.kept hg (let ⟨_, a, _, _⟩ := h; Or.inr (Ne.symm (hf.ne_own a)))
  refine ⟨_, hm, fun x => ⟨fun hx => ?_, fun hx => ?_⟩⟩
  · have hne : x ≠ (j : Int) := by omega
    simp only [if_neg hne]
    exact (h2 x).1 (by omega)
  · by_cases e : x = (j : Int)
    · subst e
      exact ⟨A, n, c, g, by simp, by rw [Int.toNat_natCast]; exact hn, by rw [Int.toNat_natCast]; exact keep hr⟩
    · obtain ⟨A', n', c', g', e1, e2, e3⟩ := (h2 x).2 (by omega)
      exact ⟨A', n', c', g', by simp only [if_neg e]; exact e1, e2, keep e3⟩
/-- The map of hints as a function to rows. -/
def hintF (L each : List (List Int)) (x : Int) : Option (List (List Int)) := if 0 ≤ x ∧ x < (each.length : Int) then some (rowsQ L (each.getD x.toNat [])) else none
theorem HintM.mapR {w0 w : World} {b j : Nat} {L each : List (List Int)} (h : HintM w0 w b j L each) (hX : Ext w0 w) (hj : each.length = j) : MapR w (.map (some b)) (hintF L each) := by
  obtain ⟨f, h1, h2⟩ := h
  refine ⟨f, fun W hW x hx => (h1.ext hW).look x hx, fun x => ?_⟩
  unfold hintF
  by_cases hr : 0 ≤ x ∧ x < (each.length : Int)
  · obtain ⟨A, n, c, g, e, hn, hs⟩ := (h2 x).2 (by rw [← hj]; exact hr)
    rw [e, if_pos hr]
    obtain ⟨A', n', c', e', hs', _⟩ := hs.sl hX (by omega)
    exact ⟨A', n', c', e', by have := hs'.1; omega, hs'⟩
  · rw [(h2 x).1 (by rw [← hj]; exact hr), if_neg hr]
    trivial
theorem hintF_mem {L each : List (List Int)} : ∀ i g, hintF L each i = some g → ∀ d ∈ g, d ∈ L := by
  intro i g h d hd
  unfold hintF at h
  split at h
  · cases h; exact rowsQ_mem hd
  · cases h
end Go.Proofs.Ytdhohoabcokdjaa
