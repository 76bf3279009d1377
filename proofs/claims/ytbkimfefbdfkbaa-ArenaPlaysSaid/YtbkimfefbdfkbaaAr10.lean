/- Layer 12 (arena): Clip; a row of which a part is copied down; Compact. -/
import Derived.Test.YtbkimfefbdfkbaaAr9
import Derived.Test.YtbkimfefbdfkbaaStill
import Derived.Laws.CopyOwn
set_option maxRecDepth 100000
namespace Go.Proofs.Ytbkimfefbdfkbaa
open Go.RowKit

theorem clip_c (g k c : Nat) (w : World) (hk : k ≤ c) : Calls Try.prog 67 #[.slice (some ⟨g, 0, none⟩) k c] w fun e w' => e = .returned (.slice (some ⟨g, 0, none⟩) k k) ∧ w = w' := by
  go_enter Try.func67, Try.ntmps67
  go_wp2
  go_ret
  exact ⟨rfl, rfl⟩
theorem clipNil_c (w : World) : Calls Try.prog 67 #[.slice none 0 0] w fun e w' => e = .returned (.slice none 0 0) ∧ w = w' := by
  go_enter Try.func67, Try.ntmps67
  go_wp2
  go_ret
  exact ⟨rfl, rfl⟩
theorem setRow_grown (w : World) (g : Nat) (cs : Array Value) : w.grownBy (w.setRow g cs) (some g) :=
  ⟨rfl, rfl, rfl, by simp [World.setRow], fun k _ hk => setRow_other w g k cs (fun e => hk (by rw [e]))⟩
theorem take_splice {α : Type} (cur cs : List α) {n T : Nat} (h1 : T + cs.length ≤ n) (h2 : n ≤ cur.length) : (cur.take T ++ (cs ++ cur.drop (T + cs.length))).take n = (cur.take n).take T ++ (cs ++ (cur.take n).drop (T + cs.length)) := by
  rw [List.take_take, Nat.min_eq_left (by omega), List.take_append, List.take_append, List.length_take, Nat.min_eq_left (by omega), List.take_of_length_le (l := cur.take T) (by rw [List.length_take]; omega), List.take_of_length_le (l := cs) (by omega), List.drop_take]
  congr 3
  omega
/-- A part of the row is copied over another. -/
theorem RowI.copy {w : World} {base g n cap T : Nat} {xs ys : List Int} {cur : Array Value} (h : RowI w base (.slice (some ⟨g, 0, none⟩) n cap) xs) (hg : w.heap[g]? = some (.cells cur 3 (0, 0))) (hT : T + ys.length ≤ xs.length) :
    RowI (w.setRow g (cur.toList.take T ++ (ys.map (Value.int .i64) ++ cur.toList.drop (T + ys.length))).toArray) base (.slice (some ⟨g, 0, none⟩) n cap) (xs.take T ++ (ys ++ xs.drop (T + ys.length))) := by
  rcases h with ⟨e, _⟩ | ⟨g', cap', cur', e, hb, hg', hc, hm, ho, hs, ht⟩
  · cases e
  · injection e with e1 e2 e3
    injection e1 with e1
    injection e1 with e1
    subst e1 e2 e3
    unfold Blk at hg'
    rw [hg] at hg'
    cases hg'
    have hcl : cur.toList.length = cur.size := by simp
    have hlen : (xs.take T ++ (ys ++ xs.drop (T + ys.length))).length = xs.length := by
      rw [List.length_append, List.length_append, List.length_take, List.length_drop]; omega
    have hsz : (cur.toList.take T ++ (ys.map (Value.int .i64) ++ cur.toList.drop (T + ys.length))).toArray.size = cur.size := by
      rw [List.size_toArray, List.length_append, List.length_append, List.length_take, List.length_drop, List.length_map]; omega
    refine Or.inr ⟨g, cap, _, by rw [hlen], hb, setRow_heap w g cur _ _ _ hg, by omega, hm, by rw [hsz, hlen]; exact ho, by rw [hsz]; exact hs, ?_⟩
    rw [hlen]
    have e := take_splice cur.toList (ys.map (Value.int .i64)) (n := xs.length) (T := T) (by rw [List.length_map]; exact hT) (by omega)
    rw [List.length_map] at e
    rw [e, ht]
    simp [List.map_take, List.map_drop]
theorem RowI.cur {w : World} {base g n cap : Nat} {xs : List Int} (h : RowI w base (.slice (some ⟨g, 0, none⟩) n cap) xs) : ∃ cur, w.heap[g]? = some (.cells cur 3 (0, 0)) ∧ n ≤ cur.size ∧ xs.length = n := by
  rcases h with ⟨e, _⟩ | ⟨g', cap', cur', e, hb, hg', hc, hm, ho, hs, ht⟩
  · cases e
  · injection e with e1 e2 e3
    injection e1 with e1
    injection e1 with e1
    subst e1 e2 e3
    exact ⟨cur', hg', by omega, rfl⟩

theorem head_step {S : ASt} (h : AInv S) {q : Nat} {r : ARow} (hr : (liveR S.rows)[q]? = some r) (z : Int) : (if z = ((flatA ((liveR S.rows).take q)).length : Int) then r.id else headA ((packA S.rows 0).take q) z) = headA ((packA S.rows 0).take (q + 1)) z := by
  have hp := pack_get S.rows 0 q
  rw [hr] at hp
  have hl : r.live = true := (List.mem_filter.1 (List.mem_of_getElem? hr)).2
  have hp' : (packA S.rows 0)[q]? = some { r with pos := 0 + ((flatA ((liveR S.rows).take q)).length : Nat) } := hp
  have key : ∀ a ∈ (packA S.rows 0).take q, a.pos ≠ (0 + ((flatA ((liveR S.rows).take q)).length : Nat) : Int) := fun a ha e => by
    obtain ⟨j, hj⟩ := List.mem_iff_getElem?.1 ha
    have hjq : j < q := by have := (List.getElem?_eq_some_iff.1 hj).1; rw [List.length_take] at this; omega
    rw [List.getElem?_take_of_lt hjq] at hj
    have := (comp_inv h).inj (show (compS S).rows[j]? = some a from hj) (show (compS S).rows[q]? = some _ from hp') e
    omega
  have e := head_app (rows := (packA S.rows 0).take q) (r := { r with pos := 0 + ((flatA ((liveR S.rows).take q)).length : Nat) }) key hl z
  rw [take_succ_of hp', e, Int.zero_add]
theorem sqz_head {rows : List ARow} {q : Nat} {r : ARow} (h : (liveR rows)[q]? = some r) : (sqz rows (q + 1))[(flatA ((liveR rows).take q)).length]? = some r.id := by
  unfold sqz
  rw [take_succ_of h, flatA_snoc, List.append_assoc, List.getElem?_append_right (Nat.le_refl _), Nat.sub_self]
  rfl
theorem allA_get {rows : List ARow} {q : Nat} {r : ARow} (h : (liveR rows)[q]? = some r) : (allA rows)[q]? = some r.pos := by
  unfold allA
  have h' : (rows.filter fun r => r.live)[q]? = some r := h
  rw [List.getElem?_map, h']; rfl
theorem live_len (rows : List ARow) : (liveR rows).length = (allA rows).length := by unfold allA liveR; rw [List.length_map]

def ArNextV (w w' : World) (base p mb : Nat) (lv : Value) (K : Nat) (S : ASt) (u : Value) : Prop :=
  ∃ lv' mb', ArMem w' base p mb' lv' K S ∧ Stay (ArF p mb lv) w w' ∧ (∀ b, ArF p mb' lv' b → ArF p mb lv b ∨ w.heap.size ≤ b) ∧ ∀ k, u.ownBlock = some k → ¬ ArF p mb' lv' k
theorem ArNextV.next {w w' : World} {base p mb K : Nat} {lv u : Value} {S : ASt} (h : ArNextV w w' base p mb lv K S u) : ArNext w w' base p mb lv K S :=
  let ⟨a, b, h1, h2, h3, _⟩ := h; ⟨a, b, h1, h2, h3⟩
theorem comp_end {w wr : World} {base p mb mb' K q : Nat} {lv v' : Value} {S : ASt} (hm : ArMem w base p mb lv K S) (hb : Blk wr p 96 #[lv, .map (some mb')]) (hrow : RowI wr base v' (flatA (packA S.rows 0))) (hc : Cnt wr mb' q (headA (packA S.rows 0))) (hq : q ≤ K) (hst : Stay (ArF p mb lv) w wr)
    (hv : v'.ownBlock = lv.ownBlock) (hmb : w.heap.size ≤ mb') (hK : K + 1 ≤ 1000000) (u : Value) (hu : ∀ k, u.ownBlock = some k → w.heap.size ≤ k ∧ k < mb') : ArNextV w (wr.setCell ⟨p, 0, none⟩ v') base p mb lv (K + 1) (compS S) u := by
  have hpm : p ≠ mb' := by have := hm.blk.lt; omega
  have hpl := hm.lt (Or.inl rfl : ArF p mb lv p)
  refine ⟨v', mb', ⟨hb.set_ 0 v', hrow.keep fun k e => Below.heap_setCell wr ⟨p, 0, none⟩ _ k (fun hk => hrow.ne_blk hb (by decide) (by rw [e, hk])), (hc.keep (Below.heap_setCell wr ⟨p, 0, none⟩ _ mb' (Ne.symm hpm))).mono (by omega), hm.bp, by omega, comp_inv hm.inv, ?_, hK⟩, hst.setCell (p := ⟨p, 0, none⟩) (Or.inl (Or.inl rfl)) v', fun b hbb => ?_, fun k hk hf => ?_⟩
  · show (packA S.rows 0).length ≤ K + 1
    rw [pack_len]
    have h1 : (liveR S.rows).length ≤ S.rows.length := List.length_filter_le _ _
    have h2 := hm.sm
    omega
  · rcases hbb with rfl | rfl | e
    · exact Or.inl (Or.inl rfl)
    · exact Or.inr hmb
    · exact Or.inl (Or.inr (Or.inr (hv ▸ e)))
  · have h1 := hu k hk
    rcases hf with rfl | rfl | e
    · omega
    · omega
    · rw [hv] at e
      have h2 := hm.lt (Or.inr (Or.inr e) : ArF p mb lv k)
      omega

/-- What Compact hands back. -/
def RetComp (S : ASt) (base p mb : Nat) (lv : Value) (K : Nat) (w : World) (e : Ending) (w' : World) : Prop :=
  ∃ v, e = .returned v ∧ OwnI w' w.heap.size v (allA S.rows) ∧ ArNextV w w' base p mb lv (K + 1) (compS S) v

set_option maxRecDepth 100000 in
set_option maxHeartbeats 8000000 in
theorem arCompact_c (w : World) (base p mb : Nat) (lv : Value) (K : Nat) (S : ASt) (h : ArMem w base p mb lv K S) (hK : K + 1 ≤ 1000000) :
    Calls Try.prog 36 #[.pointer (some ⟨p, 0, none⟩)] w (RetComp S base p mb lv K w) := by
  have hln := h.len
  have hsm : S.rows.length ≤ 1000000 := Nat.le_trans h.sm h.sk
  have hall := allA_len S.rows
  have HAB := Lib.hid (allA_bd h.inv hln)
  have H := Lib.hid h
  have hmk := fun (n : Int) (W : World) => run_makeMap_hint (P := Try.prog) 94 3 3 .i64 n Try.underlying94 W
  clear h
  go_enter Try.func36, Try.ntmps36
  go_wp2_with fail
  refine (arAll_c _ base p mb lv K S H.out).mono ?_
  rintro e w1 ⟨v1, rfl, ho1, hx1⟩
  obtain ⟨Aw, nw, cw, rfl, hsw, _⟩ := ho1.slc (by omega) HAB.out
  obtain rfl : (allA S.rows).length = nw := hsw.1
  have hm1 := H.out.ext hx1
  have c1 := hm1.blk.cell 1
  have c0 := hm1.blk.cell 0
  have f1 := hm1.blk.frozen 1
  have hnp : p ≠ w1.heap.size := by have := hm1.blk.lt; omega
  have hnp' : w1.heap.size ≠ p := Ne.symm hnp
  have hbA := hm1.blk.alloc (.map #[] 0)
  have d0 := hbA.cell 0
  have d1 := hbA.cell 1
  have e1 := hbA.frozen 1
  have HM1 := Lib.hid hm1
  have HX1 := Lib.hid hx1
  have HO1 := Lib.hid ho1
  clear hm1 hx1 ho1 hsw hbA
  go_wp2_with (go_at_call 66; refine (arMade_c _ _ _ c1).mono ?_; rintro e w' ⟨rfl, rfl⟩)
  have hrow0 := (HM1.out.row.ext ((Ext.refl w1).alloc (.map #[] 0))).keep (w' := (w1.alloc (.map #[] 0)).setCell ⟨p, 1, none⟩ (.map (some w1.heap.size))) (fun k e => Below.heap_setCell _ ⟨p, 1, none⟩ _ k (fun hk => HM1.out.row.ne_blk HM1.out.blk (by decide) (by rw [e, hk])))
  have HROW0 := Lib.hid hrow0
  clear hrow0 c1 f1
  go_loopw [4, 22] (fun to idx wr => ∃ q : Nat, q ≤ (allA S.rows).length ∧ to = .int .i64 ((flatA ((liveR S.rows).take q)).length : Nat) ∧ idx = .int .i64 q ∧ Blk wr p 96 #[lv, .map (some w1.heap.size)] ∧ RowI wr base lv (sqz S.rows q) ∧ Cnt wr w1.heap.size q (headA ((packA S.rows 0).take q)) ∧ OwnI wr w.heap.size (.slice Aw (allA S.rows).length cw) (allA S.rows) ∧ Stay (ArF p mb lv) w wr ∧ w1.heap.size < wr.heap.size) (fun _ idx _ => (allA S.rows).length - (intOf idx).toNat)
  case atStart =>
    refine ⟨0, Nat.zero_le _, by simp [flatA], rfl, (HM1.out.blk.alloc (.map #[] 0)).set_ 1 _, by rw [sqz_zero]; exact HROW0.out, ?_, ?_, ?_, by simp⟩
    · exact ((Cnt.made w1).keep (Below.heap_setCell _ ⟨p, 1, none⟩ _ _ hnp')).congr fun z => by simp [headA]
    · exact (HO1.out.alloc _).setCell (p := ⟨p, 1, none⟩) (fun k e hk => by have := (HO1.out.blk k e).1; have := H.out.blk.lt; have hk' : k = p := hk; omega) _
    · exact ((Ext.stay (F := ArF p mb lv) HX1.out).alloc _).setCell (p := ⟨p, 1, none⟩) (Or.inl (Or.inl rfl)) _
  case round =>
    obtain ⟨q, hq, rfl, rfl, hb, hrow, hc, how, hst, hsz⟩ := hrel
    have HB := Lib.hid hb
    have HROW := Lib.hid hrow
    have HC := Lib.hid hc
    have HOW := Lib.hid how
    have HST := Lib.hid hst
    clear hb hrow hc how hst
    by_cases hlt : q < (allA S.rows).length
    · obtain ⟨r, hr⟩ : ∃ r, (liveR S.rows)[q]? = some r := ⟨(liveR S.rows)[q]'(by rw [live_len]; exact hlt), List.getElem?_eq_getElem _⟩
      obtain ⟨i, hi, ht, hlv⟩ := live_at hr
      obtain ⟨_, _, _, ew, hsw, _⟩ := HOW.out.slc (by omega) HAB.out
      injection ew with ew1 ew2 ew3
      subst ew1 ew2 ew3
      obtain ⟨ad, x, rfl, hx, hcx, _, _⟩ := hsw.at_ hlt
      obtain rfl : r.pos = x := by have := hx.out; rw [allA_get hr] at this; exact Option.some.inj this
      have hpos := H.out.inv.pos i r hi
      have hle := arow_le hi
      have hst := fun (k : Nat) (y : Int) (hk : (encR r)[k]? = some y) => sqz_at (q := q) (k := k) (y := y) hi ht hk
      have hTX := (hst 0 r.id rfl).1
      have hok := H.out.inv.ok r (List.mem_of_getElem? hi)
      have hsl := sqz_len S.rows q
      have hss := sqz_succ hr
      have hT1 : flatA ((liveR S.rows).take (q + 1)) = flatA ((liveR S.rows).take q) ++ encR r := by rw [take_succ_of hr, flatA_snoc]
      have hhs := head_step H.out.inv hr
      have hsh := sqz_head hr
      have hel := encR_len r
      rw [hel] at hle
      obtain ⟨g, cap, elv, hcap, hcell, _⟩ := HROW.out.full (by rw [hsl]; omega)
      rw [hsl] at elv hcap
      subst elv
      have hcells : ∀ (k : Nat) (y : Int), (encR r)[k]? = some y → wr.cell? ⟨g, (flatA (S.rows.take i)).length + k, none⟩ = some (.int .i64 y) := fun k y hk => hcell _ _ (hst k y hk).2
      have hc1 := hcells 1 (r.lits.length : Nat) rfl
      rw [hpos] at hcx
      have HSS := Lib.hid hss
      have HT1 := Lib.hid hT1
      have HHS := Lib.hid hhs
      have HCELLS := Lib.hid hcells
      have HEL := Lib.hid hel
      have HSL := Lib.hid hsl
      obtain ⟨p1, hl1, _⟩ := hok
      clear hx hsw hr hi ht hpos hst hss hT1 hhs hcell hcells hel hsl
      generalize (flatA (S.rows.take i)).length = X at hcx hle hTX hc1 HCELLS
      generalize hTT : (flatA ((liveR S.rows).take q)).length = T at hTX HSS HHS hsh ⊢
      have HSH := Lib.hid hsh
      have HTT := Lib.hid hTT
      clear hTT hsh
      generalize hnn : (flatA S.rows).length = n at hle hcap HROW HB HSL hln
      have HNN := Lib.hid hnn
      clear hnn
      have b0 : (0 : Int) ≤ (q : Int) := by omega
      have b1 : (q : Int) < ((allA S.rows).length : Int) := by omega
      have b2 : (0 : Int) ≤ (X : Int) := by omega
      have b3 : (X : Int) + 1 < (n : Int) := by omega
      have b4 : (X : Int) + 3 + (r.lits.length : Int) ≤ (n : Int) := by omega
      have b5 : (T : Int) ≤ (X : Int) := by omega
      have b6 : (0 : Int) ≤ (T : Int) := by omega
      have s1 : (0 : Int) ≤ (X : Int) + 1 := by omega
      have s2 : ¬ ((n : Int) ≤ (X : Int) + 1) := by omega
      have t1 : (T : Int) ≤ (n : Int) := by omega
      have t2 : (T : Int) ≤ (cap : Int) := by omega
      have t3 : ¬ T = cap := by omega
      have t4 : ¬ cap = T := by omega
      have t5 : ¬ cap ≤ T := by omega
      have t6 : T < cap := by omega
      have t7 : ¬ X = cap := by omega
      have t8 : ¬ cap = X := by omega
      have t9 : ¬ cap ≤ X := by omega
      have t10 : X < cap := by omega
      have t11 : (X : Int) + 3 + (r.lits.length : Int) ≤ (cap : Int) := by omega
      have t12 : (0 : Int) ≤ (X : Int) + 3 + (r.lits.length : Int) := by omega
      have t13 : (X : Int) ≤ (X : Int) + 3 + (r.lits.length : Int) := by omega
      have hw1 : IntKind.i64.wrap ((X : Int) + 1) = (X : Int) + 1 := IntWalk.i64_in _ (by omega)
      have hw3 : IntKind.i64.wrap ((X : Int) + 3) = (X : Int) + 3 := IntWalk.i64_in _ (by omega)
      have hw4 : IntKind.i64.wrap ((X : Int) + 3 + (r.lits.length : Int)) = (X : Int) + 3 + (r.lits.length : Int) := IntWalk.i64_in _ (by omega)
      go_wp2_with fail
      refine still_tailV 23 (by kernel_rfl) (by kernel_rfl) fun W hW => ?_
      have hxW : Ext wr W := by rw [hW]; exact (Ext.refl _).drew
      have k0 := (HB.out.ext hxW).cell 0
      have k1 := hxW.cell hc1
      have HXW := Lib.hid hxW
      clear hW hxW d0 d1 c0 e1 hcx hc1
      simp only [List.take_succ_cons, List.take_zero, List.drop_succ_cons, List.drop_zero]
      repeat still_step
      refine wpStill_nil ?_
      have hrW := HROW.out.ext HXW.out
      obtain ⟨cur, hcur, hcs, _⟩ := hrW.cur
      have HCUR := Lib.hid hcur
      have HRW := Lib.hid hrW
      clear hcur hrW
      refine wpList_copy_own rfl (.tmp 31) (.tmp 48) 33 33 rfl 3 Try.underlying33 (by kernel_rfl) g T (n - T) (cap - T) ⟨g, X, none⟩ _ _ ?_ rfl cur 3 HCUR.out ((encR r).map (Value.int .i64)) ?_ ?_ ?_ ?_ ?_
      · rfl
      · rw [List.length_map, HEL.out]
        have ex : ((X : Int) + 3 + (r.lits.length : Int)).toNat - X = r.lits.length + 3 := by omega
        rw [ex]
        exact (Nat.min_eq_left (by omega)).symm
      · intro k u hk
        rw [List.getElem?_map] at hk
        obtain ⟨y, hy, rfl⟩ := Option.map_eq_some_iff.1 hk
        have e2 : (⟨g, X, none⟩ : Addr).add k = ⟨g, X + k, none⟩ := by unfold Addr.add; split <;> simp_all
        rw [e2]
        exact HXW.out.cell (HCELLS.out k y hy)
      · rw [List.length_map, HEL.out]; omega
      · intro u hu; obtain ⟨y, _, rfl⟩ := List.mem_map.1 hu; rfl
      have hgr := setRow_grown W g (cur.toList.take T ++ ((encR r).map (Value.int .i64) ++ cur.toList.drop (T + (encR r).length))).toArray
      have hrow9 := HRW.out.copy (T := T) (ys := encR r) HCUR.out (by rw [HSL.out, HEL.out]; omega)
      rw [← HSS.out] at hrow9
      rw [List.length_map]
      have hpg : p ≠ g := fun e => (HRW.out.ne_blk (HB.out.ext HXW.out) (by decide)) (by rw [e]; rfl)
      have hbW := HB.out.ext HXW.out
      have hcW := HC.out.ext HXW.out
      have howW := HOW.out.ext HXW.out
      have hglt : g < w.heap.size := (H.out.row.lt g rfl).2
      have hb9 := hbW.grown hgr (by simpa using hpg)
      have hc9 := hcW.grown hgr (Ne.symm (hcW.ne_row HRW.out))
      have how9 := howW.kept hgr (Or.inr (fun e => by have := (howW.blk g e).1; omega))
      have hst9 := (HST.out.trans_ext HXW.out).grown hgr (fun k e => by cases e; exact Or.inl (Or.inr (Or.inr rfl)))
      have hsz9 : w1.heap.size < (W.setRow g (cur.toList.take T ++ ((encR r).map (Value.int .i64) ++ cur.toList.drop (T + (encR r).length))).toArray).heap.size := Nat.lt_of_lt_of_le (Nat.lt_of_lt_of_le hsz HXW.out.size_le) hgr.size
      generalize W.setRow g (cur.toList.take T ++ ((encR r).map (Value.int .i64) ++ cur.toList.drop (T + (encR r).length))).toArray = w9 at hgr hrow9 hb9 hc9 how9 hst9 hsz9 ⊢
      have HB9 := Lib.hid hb9
      have HR9 := Lib.hid hrow9
      have HC9 := Lib.hid hc9
      have HOW9 := Lib.hid how9
      have HST9 := Lib.hid hst9
      clear hgr hrow9 hb9 hc9 how9 hst9 hbW hcW howW k0 k1 HCUR HRW
      rw [show goInt (encR r).length = .int .i64 ((r.lits.length + 3 : Nat) : Int) by rw [HEL.out]; rfl]
      have hsl9 := sqz_len S.rows (q + 1)
      rw [HNN.out] at hsl9
      have HSL9 := Lib.hid hsl9
      have w1' : IntKind.i64.wrap ((T : Int) + ((r.lits.length + 3 : Nat) : Int)) = (T : Int) + ((r.lits.length + 3 : Nat) : Int) := IntWalk.i64_in _ (by omega)
      obtain ⟨p2, p3⟩ := p1
      clear hsl9
      go_wp2_with fail
      refine still_tailV 12 (by kernel_rfl) (by kernel_rfl) fun W2 hW2 => ?_
      have hxW2 : Ext w9 W2 := by rw [hW2]; exact (Ext.refl _).drew
      have k0 := (HB9.out.ext hxW2).cell 0
      have k1 := (HB9.out.ext hxW2).cell 1
      obtain ⟨g', cap', e9, _, hcell9, _⟩ := (HR9.out.ext hxW2).full (by rw [HSL9.out]; omega)
      injection e9 with e9 e10 e11
      clear e10 e11
      injection e9 with e9
      injection e9 with e9
      subst e9
      have k2 := hcell9 T r.id HSH.out
      have HXW2 := Lib.hid hxW2
      have s3 : ¬ ((n : Int) ≤ (T : Int)) := by omega
      have s4 : (T : Int) < (n : Int) := by omega
      clear hW2 hxW2 hcell9
      simp only [List.take_succ_cons, List.take_zero, List.drop_succ_cons, List.drop_zero]
      repeat still_step
      refine wpStill_nil ?_
      refine wpList_setm _ rfl (.tmp 53) (.tmp 54) (.tmp 61) rfl w1.heap.size q (headA ((packA S.rows 0).take q)) rfl (HC9.out.ext HXW2.out) (by omega) _ _ rfl rfl (by omega) (by omega) ?_
      intro w12 hc12 hg12
      have hb12 := (HB9.out.ext HXW2.out).grown hg12 (by simpa using hnp)
      have hr12 := (HR9.out.ext HXW2.out).kept hg12 (Or.inr ((HC9.out.ext HXW2.out).ne_row (HR9.out.ext HXW2.out)))
      have ho12 := (HOW9.out.ext HXW2.out).kept hg12 (Or.inr ((HC9.out.ext HXW2.out).ne_row (RowI.of_own (HOW9.out.ext HXW2.out))))
      have hs12 := (HST9.out.trans_ext HXW2.out).grown hg12 (fun k e => by cases e; exact Or.inr (by have := HX1.out.size_le; omega))
      have hz12 : w1.heap.size < w12.heap.size := Nat.lt_of_lt_of_le (Nat.lt_of_lt_of_le hsz9 HXW2.out.size_le) hg12.size
      have hc13 : Cnt w12 w1.heap.size (q + 1) (headA ((packA S.rows 0).take (q + 1))) := hc12.congr fun z => HHS.out z
      have HB12 := Lib.hid hb12
      have HR12 := Lib.hid hr12
      have HO12 := Lib.hid ho12
      have HS12 := Lib.hid hs12
      have HC13 := Lib.hid hc13
      clear hb12 hr12 ho12 hs12 hc12 hg12 hc13 k0 k1 k2
      go_wp2_with fail
      go_roundw
      case rel => exact ⟨q + 1, by omega, by rw [HT1.out, List.length_append, HTT.out, HEL.out]; go_num, by go_num, HB12.out, HR12.out, HC13.out, HO12.out, HS12.out, hz12⟩
      case measure => simp [intOf]; omega
    · have hqe : q = (allA S.rows).length := by omega
      subst hqe
      have hll := live_len S.rows
      have htk : (liveR S.rows).take (allA S.rows).length = liveR S.rows := List.take_of_length_le (by omega)
      have hpk : (packA S.rows 0).take (allA S.rows).length = packA S.rows 0 := List.take_of_length_le (by rw [pack_len]; omega)
      have hsa := sqz_all S.rows
      rw [hll] at hsa
      have hc := HC.out
      rw [hpk] at hc
      have HCC := Lib.hid hc
      have hle2 := live_flat_le S.rows
      have hpf := pack_flat S.rows 0
      have hsl := sqz_len S.rows (allA S.rows).length
      have hqK : (allA S.rows).length ≤ K := Nat.le_trans hall H.out.sm
      rw [htk]
      obtain ⟨T, hT⟩ : ∃ T, (flatA (liveR S.rows)).length = T := ⟨_, rfl⟩
      rw [hT] at hsa hle2 ⊢
      have k0 := HB.out.cell 0
      have k1 := HB.out.frozen 0
      have HOE := Lib.hid (HOW.out.setCell (p := ⟨p, 0, none⟩) (fun k e hk => by have := (HOW.out.blk k e).1; have := H.out.blk.lt; have hk' : k = p := hk; omega))
      have hmb : w.heap.size ≤ w1.heap.size := HX1.out.size_le
      rcases HROW.out.form with ⟨A, cA, elv, hcA⟩
      rw [hsl] at elv hcA
      have HLV := Lib.hid elv
      cases A with
      | none =>
        have hn : (flatA S.rows).length = 0 ∧ cA = 0 := by
          rcases HROW.out with ⟨e, e2⟩ | ⟨g, cap, cur, e, _⟩
          · rw [elv] at e
            injection e with e3 e4 e5
            exact ⟨e4, e5⟩
          · rw [elv] at e
            injection e with e3 _ _
            cases e3
        obtain ⟨hn1, hn2⟩ := hn
        have hT0 : T = 0 := by omega
        subst hT0
        have hfl : flatA (packA S.rows 0) = [] := by rw [hpf]; exact List.eq_nil_of_length_eq_zero hT
        have HE := Lib.hid (comp_end H.out HB.out (v' := .slice none 0 0) (by rw [hfl]; exact Or.inl ⟨rfl, rfl⟩) hc hqK HST.out (by rw [elv]; rfl) hmb hK _ HO1.out.blk)
        rw [elv, hn1, hn2] at k0
        clear hc hsa hpf hsl hT hfl elv hn1 hn2 htk hpk hll d0 d1 c0 e1
        go_wp2_with fail
        refine (clipNil_c _).mono ?_
        rintro e w' ⟨rfl, rfl⟩
        go_wp2_with fail
        go_ret
        exact ⟨_, rfl, HOE.out _, HE.out⟩
      | some ad =>
        obtain ⟨g, rfl⟩ : ∃ g, ad = ⟨g, 0, none⟩ := by
          rcases HROW.out with ⟨e, e2⟩ | ⟨g, cap, cur, e, _⟩
          · rw [elv] at e; injection e with e3; cases e3
          · rw [elv] at e
            injection e with e3 _ _
            injection e3 with e3
            exact ⟨g, e3⟩
        have hrow := HROW.out
        rw [elv] at hrow
        have hcl := hrow.clip (k := T) (by rw [hsl]; omega)
        rw [hsa, ← hpf] at hcl
        have HE := Lib.hid (comp_end H.out HB.out (v' := .slice (some ⟨g, 0, none⟩) T T) hcl hc hqK HST.out (by rw [elv]; rfl) hmb hK _ HO1.out.blk)
        rw [elv] at k0
        have t1 : (T : Int) ≤ ((flatA S.rows).length : Int) := by omega
        have t2 : (T : Int) ≤ (cA : Int) := by omega
        have hTc : T ≤ cA := by omega
        clear hc hsa hpf hsl hT elv htk hpk hll d0 d1 c0 e1 hrow hcl
        generalize (flatA S.rows).length = n at k0 t1 hle2 hcA HLV hln
        go_wp2_with fail
        refine (clip_c g T cA _ hTc).mono ?_
        rintro e w' ⟨rfl, rfl⟩
        go_wp2_with fail
        go_ret
        exact ⟨_, rfl, HOE.out _, HE.out⟩
end Go.Proofs.Ytbkimfefbdfkbaa
