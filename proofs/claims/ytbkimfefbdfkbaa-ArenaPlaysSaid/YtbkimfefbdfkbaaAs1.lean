/- Layer 12 (arena): the reference's rows in memory; finding a row, and all places. -/
import Derived.Test.YtbkimfefbdfkbaaAr16
set_option maxRecDepth 100000
namespace Go.Proofs.Ytbkimfefbdfkbaa
open Go.RowKit

theorem OwnV.setCellK {w : World} {base size n : Nat} {e : TypeId} {v : Value} {us : List Value} (h : OwnV w base e size v n us) {p : Addr} (hp : ∀ k, v.ownBlock = some k → k ≠ p.block) (u : Value) : OwnV (w.setCell p u) base e size v n us :=
  h.stay (F := fun b => b = p.block) ((Stay.refl (fun b => b = p.block) w).setCell (Or.inl rfl) u) (fun k hk => hp k hk)
/-- A clause's slice beside its row. -/
structure QSl where
  A : Option Addr
  n : Nat
  c : Nat
def enc5 (p : ARow × QSl) : List Value := [.int .i64 p.1.pos, .int .i64 p.1.id, .slice p.2.A p.2.n p.2.c, .bool p.1.learnt, .bool p.1.live]
theorem enc5_len (p : ARow × QSl) : (enc5 p).length = 5 := rfl
/-- The slice is the rows R; what it is made of lies outside F. -/
def RefR (F : Nat → Prop) (w : World) (b : Nat) (v : Value) (R : List ARow) : Prop :=
  ∃ us : List (ARow × QSl), us.map Prod.fst = R ∧ OwnV w b 72 5 v R.length (us.flatMap enc5) ∧ (∀ k, v.ownBlock = some k → ¬ F k) ∧ ∀ p ∈ us, OwnI w 0 (.slice p.2.A p.2.n p.2.c) p.1.lits ∧ ∀ k, (Value.slice p.2.A p.2.n p.2.c).ownBlock = some k → ¬ F k
section
variable {F G : Nat → Prop} {w w' : World} {b : Nat} {v : Value} {R : List ARow}
theorem RefR.stay (h : RefR F w b v R) (hs : Stay F w w') : RefR F w' b v R := by
  obtain ⟨us, h1, h2, h3, h4⟩ := h
  exact ⟨us, h1, h2.stay hs h3, h3, fun p hp => ⟨(h4 p hp).1.stay hs (h4 p hp).2, (h4 p hp).2⟩⟩
theorem RefR.ext (h : RefR F w b v R) (hx : Ext w w') : RefR F w' b v R := h.stay (Ext.stay hx)
theorem RefR.less {a : Nat} (h : RefR F w b v R) (hab : a ≤ b) : RefR F w a v R := by
  obtain ⟨us, h1, h2, h3, h4⟩ := h
  exact ⟨us, h1, h2.less hab, h3, h4⟩
theorem RefR.turn (h : RefR F w b v R) (hG : ∀ k, G k → F k ∨ w.heap.size ≤ k) : RefR G w b v R := by
  obtain ⟨us, h1, h2, h3, h4⟩ := h
  refine ⟨us, h1, h2, fun k e hk => ?_, fun p hp => ⟨(h4 p hp).1, fun k e hk => ?_⟩⟩
  · rcases hG k hk with hf | hf
    · exact h3 k e hf
    · have := (h2.blk k e).2; omega
  · rcases hG k hk with hf | hf
    · exact (h4 p hp).2 k e hf
    · have := ((h4 p hp).1.blk k e).2; omega
theorem RefR.next {p mb mb' : Nat} {lv lv' : Value} (h : RefR (ArF p mb lv) w b v R) (hs : Stay (ArF p mb lv) w w') (hn : ∀ b, ArF p mb' lv' b → ArF p mb lv b ∨ w.heap.size ≤ b) : RefR (ArF p mb' lv') w' b v R :=
  ((h.turn (G := fun b => ArF p mb lv b ∨ ArF p mb' lv' b) (fun k hk => by rcases hk with hk | hk; exact Or.inl hk; exact hn k hk)).stay (hs.mono (fun _ _ hf => Or.inl hf))).turn (fun k hk => Or.inl (Or.inr hk))
theorem RefR.nil (F : Nat → Prop) (w : World) (b : Nat) : RefR F w b (.slice none 0 0) [] := ⟨[], rfl, OwnV.nil _ _ _ _, fun k e => (by cases e), fun p h => by cases h⟩
theorem RefR.len (h : RefR F w b v R) : ∃ A c, v = .slice A R.length c ∧ R.length ≤ c := by
  obtain ⟨us, h1, h2, _⟩ := h
  exact h2.len
/-- A store into a block of another type. -/
theorem RefR.setCell {g : Nat} {t : TypeId} {cs : Array Value} (h : RefR F w b v R) (hg : Blk w g t cs) (h1 : 72 ≠ t) (h2 : 3 ≠ t) (i : Nat) (u : Value) : RefR F (w.setCell ⟨g, i, none⟩ u) b v R := by
  obtain ⟨us, e1, e2, e3, e4⟩ := h
  refine ⟨us, e1, ?_, e3, fun p hp => ⟨?_, (e4 p hp).2⟩⟩
  · have hne := e2.ne_blkK hg h1
    exact e2.setCellK (p := ⟨g, i, none⟩) (fun k hk e => hne (by rw [hk, e])) u
  · have hne := (e4 p hp).1.ne_blk hg h2
    exact (e4 p hp).1.setCell (p := ⟨g, i, none⟩) (fun k hk e => hne (by rw [hk, e])) u
/-- Row k. -/
theorem RefR.at_ (h : RefR F w b v R) {k : Nat} {r : ARow} (hr : R[k]? = some r) : ∃ g cap A n c, v = .slice (some ⟨g, 0, none⟩) R.length cap ∧ (OwnI w 0 (.slice A n c) r.lits ∧ ∀ k, (Value.slice A n c).ownBlock = some k → ¬ F k) ∧
    w.cell? ⟨g, k * 5, none⟩ = some (.int .i64 r.pos) ∧ w.cell? ⟨g, k * 5 + 1, none⟩ = some (.int .i64 r.id) ∧ w.cell? ⟨g, k * 5 + 2, none⟩ = some (.slice A n c) ∧ w.cell? ⟨g, k * 5 + 3, none⟩ = some (.bool r.learnt) ∧ w.cell? ⟨g, k * 5 + 4, none⟩ = some (.bool r.live) ∧ R.length ≤ cap := by
  obtain ⟨us, rfl, h2, h3, h4⟩ := h
  have hk := (List.getElem?_eq_some_iff.1 hr).1
  obtain ⟨g, cap, rfl, hcap, _, _, hc⟩ := OwnV.full h2 (by omega)
  rw [List.getElem?_map] at hr
  obtain ⟨p, hp, rfl⟩ := Option.map_eq_some_iff.1 hr
  exact ⟨g, cap, p.2.A, p.2.n, p.2.c, rfl, h4 p (List.mem_of_getElem? hp), hc _ _ (flat_get enc5_len hp (k := 0) (by decide)), hc _ _ (flat_get enc5_len hp (k := 1) (by decide)), hc _ _ (flat_get enc5_len hp (k := 2) (by decide)), hc _ _ (flat_get enc5_len hp (k := 3) (by decide)), hc _ _ (flat_get enc5_len hp (k := 4) (by decide)), hcap⟩
end

set_option maxHeartbeats 1000000 in
theorem rFind_c (F : Nat → Prop) (w : World) (b : Nat) (v : Value) (rows : List ARow) (sz x : Int) (h : RefR F w b v rows) (hsm : rows.length ≤ 1000000) :
    Calls Try.prog 29 #[.agg #[v, .int .i64 sz], .int .i64 x] w fun e w' => e = .returned (.int .i64 (findA rows x)) ∧ Ext w w' := by
  obtain ⟨A, c, rfl, hc⟩ := RefR.len h
  go_enter Try.func29, Try.ntmps29
  go_wp2
  go_loop [5] (fun i => ∃ k : Nat, k ≤ rows.length ∧ i = .int .i64 k ∧ (rows.take k).findIdx? (atP x) = none) (fun i => rows.length - (intOf i).toNat)
  case atStart => exact ⟨0, Nat.zero_le _, rfl, rfl⟩
  case round =>
    obtain ⟨k, hk, rfl, hno⟩ := hrel
    have HN := Lib.hid hno
    clear hno
    by_cases hlt : k < rows.length
    · have hr : rows[k]? = some rows[k] := List.getElem?_eq_getElem hlt
      generalize rows[k] = r at hr
      obtain ⟨g, cap, A1, n1, c1, e, _, z0, _, _, _, z4, _⟩ := (h.ext ((Ext.refl w).alloc (Obj.cells #[.slice A rows.length c, .int .i64 sz] 58))).at_ hr
      injection e with e1 e2 e3
      subst e1 e3
      have HR := Lib.hid hr
      clear hr
      by_cases hp : r.pos = x
      · have hpb : (r.pos == x) = true := by simpa using hp
        cases hv : r.live with
        | true =>
          have HV : Hid (atP x r = true) := Lib.hid (by unfold atP; rw [hpb, hv]; rfl)
          rw [hv] at z4
          clear hp hv
          go_wp2
          go_ret
          exact ⟨ret_int (by rw [findA, idxP, findIdx_hit HN.out HR.out HV.out]), (Ext.refl _).alloc _⟩
        | false =>
          have HV : Hid (atP x r = false) := Lib.hid (by unfold atP; rw [hv]; simp)
          rw [hv] at z4
          clear hp hv
          go_wp2
          go_round
          case rel => exact ⟨k + 1, by omega, by go_num, findIdx_snoc_none HN.out HR.out HV.out⟩
          case measure => simp [intOf]; omega
      · have hpb : (r.pos == x) = false := by simpa using hp
        have HV : Hid (atP x r = false) := Lib.hid (by unfold atP; rw [hpb]; rfl)
        clear hp
        go_wp2
        go_round
        case rel => exact ⟨k + 1, by omega, by go_num, findIdx_snoc_none HN.out HR.out HV.out⟩
        case measure => simp [intOf]; omega
    · go_wp2
      go_ret
      refine ⟨ret_int ?_, (Ext.refl _).alloc _⟩
      have := HN.out
      rw [take_len_of rfl hlt] at this
      rw [findA, idxP, this]

theorem allA_take {rows : List ARow} {k : Nat} {r : ARow} (h : rows[k]? = some r) : allA (rows.take (k + 1)) = allA (rows.take k) ++ if r.live then [r.pos] else [] := by
  unfold allA
  rw [take_succ_of h, List.filter_append, List.map_append]
  cases hv : r.live <;> simp [hv]

set_option maxHeartbeats 1000000 in
theorem rAll_c (F : Nat → Prop) (w : World) (b : Nat) (v : Value) (rows : List ARow) (sz : Int) (h : RefR F w b v rows) (hsm : rows.length ≤ 1000000) (hbd : ∀ r ∈ rows, -9223372036854775808 ≤ r.pos ∧ r.pos ≤ 9223372036854775807) :
    Calls Try.prog 62 #[.agg #[v, .int .i64 sz]] w (RetOwn (allA rows) w) := by
  obtain ⟨A, c, rfl, hc⟩ := RefR.len h
  have HBD := Lib.hid hbd
  clear hbd
  have HX0 := Lib.hid ((Ext.refl w).alloc (Obj.cells #[.slice A rows.length c, .int .i64 sz] 58))
  have HB0 := Lib.hid (Blk.new w 58 #[.slice A rows.length c, .int .i64 sz])
  go_enter Try.func62, Try.ntmps62
  go_wp2
  go_loopw [3, 4] (fun v i wr => ∃ k : Nat, k ≤ rows.length ∧ i = .int .i64 k ∧ OwnI wr (w.heap.size + 1) v (allA (rows.take k)) ∧ Ext (w.alloc (Obj.cells #[.slice A rows.length c, .int .i64 sz] 58)) wr) (fun _ i _ => rows.length - (intOf i).toNat)
  case atStart => exact ⟨0, Nat.zero_le _, rfl, OwnI.nil _ _, Ext.refl _⟩
  case round =>
    obtain ⟨k, hk, rfl, ho, hx⟩ := hrel
    have hsz : w.heap.size + 1 ≤ wr.heap.size := by have := hx.size_le; simpa using this
    have cb := (HB0.out.ext hx).cell 0
    have HO := Lib.hid ho
    have HX := Lib.hid hx
    clear ho hx
    by_cases hlt : k < rows.length
    · have hr : rows[k]? = some rows[k] := List.getElem?_eq_getElem hlt
      generalize rows[k] = r at hr
      obtain ⟨g, cap, A1, n1, c1, e, _, z0, _, _, _, z4, _⟩ := (h.ext (HX0.out.trans HX.out)).at_ hr
      injection e with e1 e2 e3
      subst e1 e3
      have HT := Lib.hid (allA_take hr)
      have hrb := HBD.out r (List.mem_of_getElem? hr)
      clear hr
      cases hv : r.live with
      | true =>
        rw [hv] at z4 HT
        have hll : (allA (rows.take k)).length ≤ k := Nat.le_trans (allA_len _) (List.length_take_le _ _)
        have HLL : Hid ((allA (rows.take k)).length + 1 ≤ 10000000000000) := by unfold Hid; omega
        clear hll hv
        go_wp2_with (at_builtin; refine append1 _ rfl (.tmp 18) (.tmp 25) rfl (w.heap.size + 1) _ _ rfl (HO.out.alloc _) _ _ _ rfl (cell_one _ _ _) hrb HLL.out (by simp; omega) ?_; intro v4 w4 ho4 hg4 hloc; have HO4 := Lib.hid ho4; have HG4 := Lib.hid hg4; clear ho4 hg4 hloc)
        go_roundw
        case rel => exact ⟨k + 1, by omega, by go_num, by rw [HT.out]; exact HO4.out, (HX.out.alloc _).grown HG4.out (fun j hj => by have := (HO.out.blk j hj).1; simp; omega)⟩
        case measure => simp [intOf]; omega
      | false =>
        rw [hv] at z4 HT
        clear hv
        go_wp2
        go_roundw
        case rel => exact ⟨k + 1, by omega, by go_num, by rw [HT.out]; simpa using HO.out, HX.out⟩
        case measure => simp [intOf]; omega
    · have ho := HO.out
      rw [take_len_of rfl hlt] at ho
      go_wp2
      go_ret
      exact ⟨_, rfl, OwnI.less ho (by omega), HX0.out.trans HX.out⟩
end Go.Proofs.Ytbkimfefbdfkbaa
