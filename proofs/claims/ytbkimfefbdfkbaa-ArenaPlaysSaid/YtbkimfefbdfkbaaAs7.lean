/- Layer 12 (arena): the reference's Compact. -/
import Derived.Test.YtbkimfefbdfkbaaAs6
set_option maxRecDepth 100000
namespace Go.Proofs.Ytbkimfefbdfkbaa
open Go.RowKit

theorem pack_snoc (l : List ARow) (r : ARow) : ∀ p : Int, packA (l ++ [r]) p = packA l p ++ if r.live then [{ r with pos := p + ((flatA (packA l p)).length : Nat) }] else [] := by
  induction l with
  | nil => intro p; cases hr : r.live <;> simp [packA, flatA, hr]
  | cons a l ih =>
    intro p
    show packA (a :: (l ++ [r])) p = _
    unfold packA
    cases ha : a.live with
    | true =>
      simp only [if_true]
      rw [ih, List.cons_append]
      congr 2
      cases hr : r.live with
      | true =>
        simp only [if_true]
        congr 2
        simp [flatA, encR_len]
        omega
      | false => rfl
    | false =>
      simp only [Bool.false_eq_true, if_false]
      exact ih p
theorem flat_le_app (a b : List ARow) : (flatA a).length ≤ (flatA (a ++ b)).length := by rw [flatA_app, List.length_append]; omega
theorem pack_flat_le (rows : List ARow) (k : Nat) : (flatA (packA (rows.take k) 0)).length ≤ (flatA rows).length := by
  rw [pack_flat]
  refine Nat.le_trans (live_flat_le _) ?_
  have e := List.take_append_drop k rows
  have h := flat_le_app (rows.take k) (rows.drop k)
  rwa [e] at h
theorem pack_len_le (rows : List ARow) (k : Nat) : (packA (rows.take k) 0).length ≤ k := by
  rw [pack_len]
  exact Nat.le_trans (List.length_filter_le _ _) (List.length_take_le _ _)
theorem refR_app {F : Nat → Prop} {w1 w4 : World} {b : Nat} {v v' : Value} {R : List ARow} {r : ARow} {us : List (ARow × QSl)} {A1 : Option Addr} {n1 c1 : Nat}
    (hF : ∀ k, F k → k < w1.heap.size) (hu1 : us.map Prod.fst = R) (hu2 : OwnV w1 b 72 5 v R.length (us.flatMap enc5)) (hu3 : ∀ k, v.ownBlock = some k → ¬ F k)
    (hu4 : ∀ p ∈ us, OwnI w1 0 (.slice p.2.A p.2.n p.2.c) p.1.lits ∧ ∀ k, (Value.slice p.2.A p.2.n p.2.c).ownBlock = some k → ¬ F k) (hq : OwnI w1 0 (.slice A1 n1 c1) r.lits ∧ ∀ k, (Value.slice A1 n1 c1).ownBlock = some k → ¬ F k)
    (ho4 : OwnV w4 b 72 5 v' (R.length + 1) (us.flatMap enc5 ++ [.int .i64 r.pos, .int .i64 r.id, .slice A1 n1 c1, .bool r.learnt, .bool r.live])) (hg4 : w1.grownBy w4 v.ownBlock) (hl4 : v'.ownBlock = v.ownBlock ∨ v'.ownBlock = some w1.heap.size) : RefR F w4 b v' (R ++ [r]) := by
  refine ⟨us ++ [(r, ⟨A1, n1, c1⟩)], by simp [hu1], ?_, fun k hk hf => ?_, fun p hp => ?_⟩
  · rw [List.length_append, List.flatMap_append]
    exact ho4
  · rcases hl4 with e | e
    · rw [e] at hk; exact hu3 k hk hf
    · rw [e] at hk; cases hk; have := hF _ hf; omega
  · rw [List.mem_append, List.mem_singleton] at hp
    rcases hp with hp | rfl
    · exact ⟨(hu4 p hp).1.kept hg4 (own_apartK hu2 (hu4 p hp).1 (by decide)), (hu4 p hp).2⟩
    · exact ⟨hq.1.kept hg4 (own_apartK hu2 hq.1 (by decide)), hq.2⟩

/-- What Compact hands back. -/
def RetCompR (F : Nat → Prop) (S : ASt) (w : World) (e : Ending) (w' : World) : Prop :=
  ∃ A n c v, e = .returned (.tuple #[.agg #[.slice A n c, .int .i64 (compS S).size], v]) ∧ RefR F w' 0 (.slice A n c) (compS S).rows ∧ OwnI w' w.heap.size v (allA S.rows) ∧ Ext w w'

set_option maxRecDepth 100000 in
set_option maxHeartbeats 8000000 in
theorem rCompact_c (F : Nat → Prop) (w : World) (v : Value) (S : ASt) (h : RefR F w 0 v S.rows) (hF : ∀ b, F b → b < w.heap.size) (hsm : S.rows.length ≤ 1000000) (hI : AInv S) (hfl : (flatA S.rows).length ≤ 1003000000) :
    Calls Try.prog 61 #[.agg #[v, .int .i64 S.size]] w (RetCompR F S w) := by
  obtain ⟨A0, c0, rfl, hc⟩ := RefR.len h
  have HX := Lib.hid (((Ext.refl w).alloc (Obj.cells #[.slice A0 S.rows.length c0, .int .i64 S.size] 58)).alloc (Obj.cells #[.slice none 0 0, .int .i64 0] 58))
  have HB0 := Lib.hid ((Blk.new w 58 #[.slice A0 S.rows.length c0, .int .i64 S.size]).alloc (Obj.cells #[.slice none 0 0, .int .i64 0] 58))
  have HB1 := Lib.hid (Blk.new2K w (Obj.cells #[.slice A0 S.rows.length c0, .int .i64 S.size] 58) 58 #[.slice none 0 0, .int .i64 0])
  have hbd : ∀ r ∈ S.rows, -9223372036854775808 ≤ r.pos ∧ r.pos ≤ 9223372036854775807 := fun r hr => by
    obtain ⟨i, hi⟩ := List.mem_iff_getElem?.1 hr
    have h1 := hI.pos i r hi
    have h2 := flat_le_app (S.rows.take i) (S.rows.drop i)
    rw [List.take_append_drop] at h2
    omega
  have HLN : Hid (∀ (k : Nat) (r : ARow), S.rows[k]? = some r → r.lits.length ≤ 1000) := Lib.hid fun k r hr => (hI.ok r (List.mem_of_getElem? hr)).2.1
  have HFL : Hid (∀ k, (flatA (packA (S.rows.take k) 0)).length ≤ 1003000000) := Lib.hid fun k => Nat.le_trans (pack_flat_le _ _) hfl
  clear hI
  go_enter Try.func61, Try.ntmps61
  go_wp2_with fail
  refine (rAll_c F _ 0 _ S.rows S.size (h.ext HX.out) hsm hbd).mono ?_
  rintro e w1 ⟨v1, rfl, ho1, hx1⟩
  obtain ⟨Aw, nw, cw, rfl⟩ := ho1.form
  have HO1 := Lib.hid (ho1.less (show w.heap.size ≤ _ by simp; omega))
  have HX1 := Lib.hid (HX.out.trans hx1)
  have HZ0 := Lib.hid (HB0.out.ext hx1)
  have HZ1 := Lib.hid (HB1.out.ext hx1)
  have hsz1 : w.heap.size + 2 ≤ w1.heap.size := by have := hx1.size_le; simpa using this
  clear ho1 hx1 hbd
  go_wp2_with fail
  go_loopw [6, 7] (fun i _ wr => ∃ (k : Nat) (ov : Value), k ≤ S.rows.length ∧ i = .int .i64 k ∧ Blk wr w1.heap.size 58 #[ov, .int .i64 ((flatA (packA (S.rows.take k) 0)).length : Nat)] ∧ RefR F wr w1.heap.size ov (packA (S.rows.take k) 0) ∧ Ext w1 wr) (fun i _ _ => S.rows.length - (intOf i).toNat)
  case atStart => exact ⟨0, .slice none 0 0, Nat.zero_le _, rfl, by simpa [packA, flatA] using Blk.new w1 58 #[.slice none 0 0, .int .i64 0], RefR.nil _ _ _, (Ext.refl _).alloc _⟩
  case round =>
    obtain ⟨k, ov, hk, rfl, hb2, hor, hxr⟩ := hrel
    have hz0 := HZ0.out.ext hxr
    have a0 := hz0.cell 0
    have a1 := hz0.cell 1
    have o0 := hb2.cell 0
    have o1 := hb2.cell 1
    have p0 := hb2.frozen 0
    have p1 := hb2.frozen 1
    obtain ⟨Ao, co, rfl, hco⟩ := RefR.len hor
    have HB2 := Lib.hid hb2
    have HOR := Lib.hid hor
    have HXR := Lib.hid hxr
    clear hb2 hor hxr hz0
    by_cases hlt : k < S.rows.length
    · have hr : S.rows[k]? = some S.rows[k] := List.getElem?_eq_getElem hlt
      generalize S.rows[k] = r at hr
      obtain ⟨g, cap, A1, n1, c1, e, hq, z0, z1, z2, z3, z4, _⟩ := (h.ext (HX1.out.trans HXR.out)).at_ hr
      have hn1 : n1 = r.lits.length := hq.1.slen
      subst hn1
      injection e with e1 e2 e3
      subst e1 e3
      have HQ := Lib.hid hq
      have HLR := HLN.out k r hr
      have HPS : Hid (packA (S.rows.take (k + 1)) 0 = packA (S.rows.take k) 0 ++ if r.live then [{ r with pos := ((flatA (packA (S.rows.take k) 0)).length : Nat) }] else []) := by
        refine Lib.hid ?_
        rw [take_succ_of hr, pack_snoc]
        simp
      have hpl := pack_len_le S.rows k
      have hf1 := HFL.out k
      have hf2 := HFL.out (k + 1)
      have HF2 := Lib.hid hf2
      obtain ⟨us, hu1, hu2, hu3, hu4⟩ := HOR.out
      have hne := hu2.ne_blkK HB2.out (by decide)
      have hvb := fun j hj => (hu2.blk j hj).2
      have HU := Lib.hid (⟨hu1, hu2, hu3, hu4⟩ : us.map Prod.fst = packA (S.rows.take k) 0 ∧ OwnV wr w1.heap.size 72 5 (.slice Ao (packA (S.rows.take k) 0).length co) (packA (S.rows.take k) 0).length (us.flatMap enc5) ∧ (∀ k', (Value.slice Ao (packA (S.rows.take k) 0).length co).ownBlock = some k' → ¬ F k') ∧ ∀ p ∈ us, OwnI wr 0 (.slice p.2.A p.2.n p.2.c) p.1.lits ∧ ∀ k, (Value.slice p.2.A p.2.n p.2.c).ownBlock = some k → ¬ F k)
      have HNE := Lib.hid hne
      have HVB := Lib.hid hvb
      have hb1 := hu2.blk
      have HBL := Lib.hid hb1
      clear hr hq hu1 hu2 hu3 hu4 hne hvb hb1 hf2
      cases hv : r.live with
      | false =>
        rw [hv] at z4 HPS
        have hps := HPS.out
        simp only [Bool.false_eq_true, if_false, List.append_nil] at hps
        have HP2 := Lib.hid hps
        clear hv hps HPS
        have q0 := fun o => keep_allocK (o := o) o0
        go_wp2
        go_roundw
        case rel => exact ⟨k + 1, _, by omega, by go_num, by rw [HP2.out]; exact HB2.out.alloc _, by rw [HP2.out]; exact HOR.out.ext ((Ext.refl _).alloc _), HXR.out.alloc _⟩
        case measure => simp [intOf]; omega
      | true =>
        rw [hv] at z4 HPS
        have hps := HPS.out
        simp only [if_true] at hps
        have HP2 := Lib.hid hps
        have hL2 : (flatA (packA (S.rows.take (k + 1)) 0)).length = (flatA (packA (S.rows.take k) 0)).length + (3 + r.lits.length) := by
          rw [hps, flatA_app, List.length_append]
          simp [flatA, encR_len]
          omega
        have HL2 := Lib.hid hL2
        clear hv hps HPS hL2
        generalize hLL : (flatA (packA (S.rows.take k) 0)).length = L at o1 hf1 HB2 HP2 HL2
        generalize hPP : (packA (S.rows.take k) 0) = P at HOR hpl HU HBL HNE HVB HP2 o0 HB2
        have hw1 : IntKind.i64.wrap ((L : Int) + 3) = (L : Int) + 3 := IntWalk.i64_in _ (by omega)
        have hw2 : IntKind.i64.wrap ((L : Int) + 3 + (r.lits.length : Int)) = (L : Int) + 3 + (r.lits.length : Int) := IntWalk.i64_in _ (by omega)
        have q0 := fun o => keep_allocK (o := o) o0
        have q1 := fun o => keep_allocK (o := o) o1
        clear hLL hPP
        go_wp2_with (at_builtin; go_loud (refine appendV elt12 _ rfl (.tmp 28) (.tmp 30) rfl w1.heap.size _ P.length (us.flatMap enc5) rfl (OwnV.alloc (OwnV.alloc HU.out.2.1 _) _) _ _ _ #[.int .i64 (L : Int), .int .i64 r.id, .slice A1 r.lits.length c1, .bool r.learnt, .bool true].toList rfl (SlV.blkK (Blk.newgK _ _ (by simp))) (by intro u hu; simp at hu; rcases hu with rfl | rfl | rfl | rfl | rfl <;> rfl) (by omega) (by have hz := HXR.out.size_le; refine Nat.le_trans hz ?_; rw [World.size_alloc, World.size_alloc]; omega) ?_; intro v4 w4 ho4 hg4 hloc; obtain ⟨A4, n4, c4, rfl⟩ := OwnV.form ho4; have b2 := ((HB2.out.alloc _).alloc _).grown hg4 (fun e => HNE.out e.symm); have bt := (((Blk.new wr 72 #[.int .i64 (L : Int), .int .i64 r.id, .slice A1 r.lits.length c1, .bool r.learnt, .bool true])).alloc _).grown hg4 (fun e => by have := HVB.out _ e.symm; omega); have t2 := bt.cell 2; have o0' := b2.cell 0; have o1' := b2.cell 1; have p0' := b2.frozen 0; have p1' := b2.frozen 1; have HO4 := Lib.hid ho4; have HG4 := Lib.hid hg4; have HL4 := Lib.hid hloc; have HB4 := Lib.hid b2; clear ho4 hg4 hloc b2 bt))
        go_roundw
        case rel =>
          refine ⟨k + 1, .slice A4 n4 c4, by omega, by go_num, ?_, ?_, ?_⟩
          · rw [HL2.out]
            have h1 := (HB4.out.set_ 0 (.slice A4 n4 c4)).set_ 1 (.int .i64 ((L : Int) + 3 + (r.lits.length : Int)))
            have e : ((L + (3 + r.lits.length) : Nat) : Int) = (L : Int) + 3 + (r.lits.length : Int) := by omega
            rw [e]
            simpa using h1
          · rw [HP2.out]
            have hF4 : ∀ b, F b → b < wr.heap.size := fun b hb => by have := hF b hb; have := HXR.out.size_le; omega
            have hal := ((Ext.refl wr).alloc (Obj.cells #[.int .i64 (L : Int), .int .i64 r.id, .slice A1 r.lits.length c1, .bool r.learnt, .bool true] 72)).alloc (Obj.cells #[.int .i64 (L : Int), .int .i64 r.id, .slice A1 r.lits.length c1, .bool r.learnt, .bool true] 72)
            have h5 := refR_app (r := { r with pos := (L : Int), live := true }) (fun b hb => Nat.lt_of_lt_of_le (hF4 b hb) hal.size_le) HU.out.1 (HU.out.2.1.ext hal) HU.out.2.2.1 (fun p hp => ⟨(HU.out.2.2.2 p hp).1.ext hal, (HU.out.2.2.2 p hp).2⟩) ⟨HQ.out.1.ext hal, HQ.out.2⟩ HO4.out HG4.out HL4.out
            exact RefR.setCell (RefR.setCell h5 HB4.out (by decide) (by decide) 0 _) (HB4.out.set_ 0 _) (by decide) (by decide) 1 _
          · refine Ext.setCell (Ext.setCell ?_ (Nat.le_refl _) _) (Nat.le_refl _) _
            exact ((HXR.out.alloc _).alloc _).grown HG4.out (fun j hj => (HBL.out j hj).1)
        case measure => simp [intOf]; omega
    · clear o0 o1
      obtain rfl : k = S.rows.length := by omega
      have hor := HOR.out
      rw [List.take_length] at hor
      have hb2 := HB2.out
      rw [List.take_length] at hb2
      have o0 := hb2.cell 0
      have o1 := hb2.cell 1
      simp at o0 o1
      have HOE := Lib.hid hor
      have hd1 := HZ1.out.ext HXR.out
      have g0 := hd1.cell 0
      have g1 := hd1.cell 1
      have y0 := hd1.frozen 0
      have y1 := hd1.frozen 1
      have HD := Lib.hid hd1
      clear hor hb2 hd1 p0 p1
      go_wp2
      refine bodyPost_ret (v := .tuple #[.agg #[.slice Ao (packA S.rows 0).length co, .int .i64 ((flatA (packA S.rows 0)).length : Nat)], .slice Aw nw cw]) (by simp [results, Try.results61, go_sem, *]) rfl ?_
      refine ⟨_, _, _, _, rfl, RefR.setCell (RefR.setCell (HOE.out.less (Nat.zero_le _)) HD.out (by decide) (by decide) 0 _) (HD.out.set_ 0 _) (by decide) (by decide) 1 _, ?_, ?_⟩
      · have hne := (HO1.out.ext HXR.out).ne_blk HD.out (by decide)
        exact ((HO1.out.ext HXR.out).setCell (p := ⟨w.heap.size + 1, 0, none⟩) (fun j hj e => hne (by rw [hj, e])) _).setCell (p := ⟨w.heap.size + 1, 1, none⟩) (fun j hj e => hne (by rw [hj, e])) _
      · repeat refine Ext.setCell ?_ (by simp) _
        exact HX1.out.trans HXR.out
end Go.Proofs.Ytbkimfefbdfkbaa
