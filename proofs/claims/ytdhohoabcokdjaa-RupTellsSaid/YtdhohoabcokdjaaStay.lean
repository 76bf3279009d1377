/- Nothing that was there has turned, but for some blocks. Plain lemmas on the model's memory. -/
import Derived.Test.YtdhohoabcokdjaaApp
import Derived.Test.YtdhohoabcokdjaaSlRows
set_option maxRecDepth 100000
namespace Go.Proofs.Ytdhohoabcokdjaa
open Go.RowKit

structure Stay (F : Nat → Prop) (w w' : World) : Prop where
  os : w'.os = w.os
  tape : w'.tape = w.tape
  output : w'.output = w.output
  size : w.heap.size ≤ w'.heap.size
  block : ∀ b, b < w.heap.size → ¬ F b → w'.heap[b]? = w.heap[b]?

section
variable {F G : Nat → Prop} {a b c w w' : World}
theorem Stay.refl (F : Nat → Prop) (w : World) : Stay F w w := ⟨rfl, rfl, rfl, Nat.le_refl _, fun _ _ _ => rfl⟩
theorem Ext.stay (h : Ext w w') : Stay F w w' := ⟨Below.os h, Below.tape h, Below.output h, Below.size h, fun b hb _ => Below.block h b hb⟩
theorem Stay.ext (h : Stay F w w') (hF : ∀ b, F b → w.heap.size ≤ b) : Ext w w' := ⟨h.os, h.tape, h.output, h.size, fun b hb => h.block b hb (fun hf => by have := hF b hf; omega)⟩
theorem Stay.trans (h : Stay F a b) (k : Stay G b c) (hG : ∀ j, j < a.heap.size → G j → F j) : Stay F a c :=
  ⟨k.os.trans h.os, k.tape.trans h.tape, k.output.trans h.output, Nat.le_trans h.size k.size, fun j hj hn => (k.block j (Nat.lt_of_lt_of_le hj h.size) (fun hg => hn (hG j hj hg))).trans (h.block j hj hn)⟩
theorem Stay.trans_ext (h : Stay F a b) (k : Ext b c) : Stay F a c := h.trans (Ext.stay (F := fun _ => False) k) (fun _ _ hf => hf.elim)
theorem Stay.ext_trans (h : Ext a b) (k : Stay F b c) : Stay F a c := (Ext.stay h).trans k (fun _ _ hf => hf)
theorem Stay.mono (h : Stay F w w') (hG : ∀ j, j < w.heap.size → F j → G j) : Stay G w w' := ⟨h.os, h.tape, h.output, h.size, fun j hj hn => h.block j hj (fun hf => hn (hG j hj hf))⟩
theorem Stay.drewN (h : Stay F a w) (n : Nat) : Stay F a (w.drewN n) := ⟨h.os, h.tape, h.output, h.size, h.block⟩
theorem Stay.drew (h : Stay F a w) : Stay F a w.drew := ⟨h.os, h.tape, h.output, h.size, h.block⟩
theorem Stay.alloc (h : Stay F a w) (o : Obj) : Stay F a (w.alloc o) := h.trans_ext ((Ext.refl w).alloc o)
theorem Stay.setCell (h : Stay F a w) {p : Addr} (hp : F p.block ∨ a.heap.size ≤ p.block) (u : Value) : Stay F a (w.setCell p u) :=
  ⟨h.os, h.tape, h.output, by rw [World.size_setCell]; exact h.size, fun j hj hn => by
    rw [Below.heap_setCell w p u j (fun e => by subst e; rcases hp with hp | hp; exact hn hp; omega)]; exact h.block j hj hn⟩
theorem Stay.grown {row : Option Nat} (h : Stay F a w) (hg : w.grownBy w' row) (hr : ∀ k, row = some k → F k ∨ a.heap.size ≤ k) : Stay F a w' :=
  ⟨hg.os.trans h.os, hg.tape.trans h.tape, hg.output.trans h.output, Nat.le_trans h.size hg.size, fun j hj hn => by
    rw [hg.block j (Nat.lt_of_lt_of_le hj h.size) (fun e => by rcases hr j e.symm with hp | hp; exact hn hp; omega)]; exact h.block j hj hn⟩
theorem Stay.cell (h : Stay F w w') {p : Addr} {v : Value} (hp : w.cell? p = some v) (hF : ¬ F p.block) : w'.cell? p = some v :=
  (World.cell?_of_block (h.block p.block (World.block_lt_of_cell? w p hp) hF)).trans hp
theorem Stay.blk {g : Nat} {t : TypeId} {cs : Array Value} (h : Stay F w w') (hb : Blk w g t cs) (hF : ¬ F g) : Blk w' g t cs := (h.block g hb.lt hF).trans hb
theorem block_add (ad : Addr) (j : Nat) : (ad.add j).block = ad.block := by unfold Addr.add; split <;> rfl

/-- A slice that lies outside of some blocks. -/
def Out (F : Nat → Prop) (A : Option Addr) : Prop := ∀ ad, A = some ad → ¬ F ad.block
theorem Out.none_ : Out F none := fun _ h => by cases h
theorem Out.mono {A : Option Addr} (h : Out F A) (hG : ∀ j, G j → F j) : Out G A := fun ad e hg => h ad e (hG _ hg)
theorem IntSl.stay {A : Option Addr} {n : Nat} {xs : List Int} (h : IntSl w A n xs) (hs : Stay F w w') (ho : Out F A) : IntSl w' A n xs :=
  ⟨h.1, h.2.1, h.2.2.1, fun hn => let ⟨ad, e, hc⟩ := h.2.2.2 hn; ⟨ad, e, fun j x hj => hs.cell (hc j x hj) (by rw [block_add]; exact ho ad e)⟩⟩
theorem OwnI.stay {base : Nat} {v : Value} {xs : List Int} (h : OwnI w base v xs) (hs : Stay F w w') (ho : ∀ k, v.ownBlock = some k → ¬ F k) : OwnI w' base v xs := by
  refine ⟨h.1, ?_⟩
  rcases h.2 with hn | ⟨g, cap, cur, rfl, hb, hgg, rest⟩
  · exact .inl hn
  · exact .inr ⟨g, cap, cur, rfl, hb, (hs.block g (Array.getElem?_eq_some_iff.1 hgg).1 (ho g rfl)).trans hgg, rest⟩
theorem OwnI.setCell {base : Nat} {v : Value} {xs : List Int} (h : OwnI w base v xs) {p : Addr} (hp : ∀ k, v.ownBlock = some k → k ≠ p.block) (u : Value) : OwnI (w.setCell p u) base v xs :=
  h.stay (F := fun b => b = p.block) ((Stay.refl (fun b => b = p.block) w).setCell (Or.inl rfl) u) (fun k e => hp k e)
theorem Blk.ne_ {g g' : Nat} {t t' : TypeId} {cs cs' : Array Value} (h : Blk w g t cs) (h' : Blk w g' t' cs') (hne : t ≠ t') : g ≠ g' := by
  rintro rfl
  unfold Blk at h h'
  rw [h] at h'
  injection h' with h'
  injection h' with _ ht
  exact hne ht
theorem OwnI.ne_blk {base g : Nat} {v : Value} {xs : List Int} {t : TypeId} {cs : Array Value} (h : OwnI w base v xs) (hg : Blk w g t cs) (hne : 3 ≠ t) : v.ownBlock ≠ some g := by
  rcases h.2 with ⟨rfl, _⟩ | ⟨g', cap, cur, rfl, _, hh, _⟩
  · simp [Value.ownBlock]
  · intro he
    have : g' = g := by simpa [Value.ownBlock] using he
    subst this
    exact Blk.ne_ (t := 3) hh hg hne rfl
theorem Blk.grown {row : Option Nat} {g : Nat} {t : TypeId} {cs : Array Value} (h : Blk w g t cs) (hb : w.grownBy w' row) (hg : some g ≠ row) : Blk w' g t cs := (hb.block g h.lt hg).trans h
end
end Go.Proofs.Ytdhohoabcokdjaa
