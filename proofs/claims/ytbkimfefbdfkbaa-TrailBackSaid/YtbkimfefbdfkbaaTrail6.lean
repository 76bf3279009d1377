/- Layer 13 (trail): back to a level. -/
import Derived.Test.YtbkimfefbdfkbaaTrail5
set_option maxRecDepth 100000
namespace Go.Proofs.Ytbkimfefbdfkbaa
open Go.RowKit

theorem TrMem.same {w w' : World} {base p gm : Nat} {lv bv : Value} {vars : Nat} {rows : List TRow} {bs : List Int} (h : TrMem w base p gm lv bv vars rows bs) (hs : ∀ b, b < w.heap.size → TrF p gm lv bv b → w'.heap[b]? = w.heap[b]?) : TrMem w' base p gm lv bv vars rows bs := by
  obtain ⟨cs, hg, hok⟩ := h.mks
  have own : ∀ {v : Value} {xs : List Int}, OwnI w base v xs → (∀ k, v.ownBlock = some k → TrF p gm lv bv k) → OwnI w' base v xs := by
    intro v xs ho hk
    refine ⟨ho.1, ?_⟩
    rcases ho.2 with hn | ⟨g, cap, cur, rfl, hb, hgg, rest⟩
    · exact .inl hn
    · exact .inr ⟨g, cap, cur, rfl, hb, (hs g (Array.getElem?_eq_some_iff.1 hgg).1 (hk g rfl)).trans hgg, rest⟩
  exact ⟨(hs p h.blk.lt (Or.inl rfl)).trans h.blk, ⟨cs, (hs gm hg.lt (Or.inr (Or.inl rfl))).trans hg, hok⟩, own h.lits (fun k e => Or.inr (Or.inr (Or.inl e))), own h.beg (fun k e => Or.inr (Or.inr (Or.inr e))), h.ap, h.bp, h.bg, h.ok, h.sm, h.smb, h.bb, h.vs⟩
theorem TrMem.lt {w : World} {base p gm : Nat} {lv bv : Value} {vars : Nat} {rows : List TRow} {bs : List Int} (h : TrMem w base p gm lv bv vars rows bs) {b : Nat} (hb : TrF p gm lv bv b) : base ≤ b ∧ b < w.heap.size := by
  obtain ⟨cs, hg, _⟩ := h.mks
  rcases hb with rfl | rfl | hb | hb
  · exact ⟨h.bp, h.blk.lt⟩
  · exact ⟨h.bg, hg.lt⟩
  · exact h.lits.blk b hb
  · exact h.beg.blk b hb
theorem back_end {W : World} {base p gm g k cap : Nat} {lv : Value} {vars : Nat} {rows : List TRow} {bs : List Int} (h : TrMem W base p gm lv (.slice (some ⟨g, 0, none⟩) bs.length cap) vars rows bs) (hk : k ≤ bs.length) :
    TrMem (W.setCell ⟨p, 2, none⟩ (.slice (some ⟨g, 0, none⟩) k cap)) base p gm lv (.slice (some ⟨g, 0, none⟩) k cap) vars rows (bs.take k) := by
  obtain ⟨cs, hgm, hok⟩ := h.mks
  have npg : p ≠ gm := h.blk.ne_ hgm (by decide)
  have lp := h.lits.ne_blk h.blk (by decide)
  have bp' := h.beg.ne_blk h.blk (by decide)
  have gset : W.grownBy (W.setCell ⟨p, 2, none⟩ (.slice (some ⟨g, 0, none⟩) k cap)) (some p) := ⟨rfl, rfl, rfl, by rw [World.size_setCell]; exact Nat.le_refl _, fun j _ hj => Below.heap_setCell W _ _ j (fun e => hj (by rw [e]))⟩
  refine ⟨h.blk.set_ 2 _, ⟨cs, hgm.far (p := ⟨p, 2, none⟩) (Ne.symm npg) _, hok⟩, h.lits.kept gset (Or.inr lp), (h.beg.cut hk).kept gset (Or.inr bp'), h.ap, h.bp, h.bg, h.ok, h.sm, ?_, fun x hx => h.bb x (List.mem_of_mem_take hx), h.vs⟩
  have := h.smb
  rw [List.length_take]; omega

theorem popper_c (p : Nat) (w : World) : Calls Try.prog 54 #[.pointer (some ⟨p, 0, none⟩)] w fun e w' => e = .returned (.func (.func 71) #[] #[.pointer (some ⟨w.heap.size, 0, none⟩)]) ∧ w' = w.alloc (.cells #[.pointer (some ⟨p, 0, none⟩)] 24) := by
  go_enter Try.func54, Try.ntmps54
  go_wp2
  go_ret
  exact ⟨rfl, rfl⟩

/-- What Back hands back. -/
def RetBack (S : TSt) (lev : Int) (base p gm : Nat) (lv bv : Value) (vars : Nat) (w : World) (e : Ending) (w' : World) : Prop :=
  ∃ v bs', e = .returned v ∧ OwnI w' w.heap.size v (backO S lev) ∧ TrTurn w w' base p gm lv bv vars (backT S lev).rows bs' ∧ beginsOk (backT S lev).rows (backT S lev).depth bs'

theorem upTo_len {rows : List TRow} (h : rows.Pairwise fun a b => a.level ≤ b.level) (k : Int) : rows.take (upTo rows k).length = upTo rows k ∧ rows.drop (upTo rows k).length = beyond rows k ∧ (upTo rows k).length ≤ rows.length := by
  have e := sorted_split h k
  refine ⟨?_, ?_, ?_⟩
  · conv => lhs; arg 2; rw [e]
    rw [List.take_left]
  · conv => lhs; arg 2; rw [e]
    rw [List.drop_left]
  · conv => rhs; rw [e]
    rw [List.length_append]; omega
theorem nodup_take {rows : List TRow} (h : (rows.map fun r => varV r.lit).Nodup) {m : Nat} {r : TRow} (hr : rows[m]? = some r) : ∀ x ∈ rows.take m, varV x.lit ≠ varV r.lit := by
  intro x hx e
  obtain ⟨i, hi⟩ := List.mem_iff_getElem?.1 hx
  rw [List.getElem?_take] at hi
  split at hi
  · rename_i hlt
    have h1 : (rows.map fun r => varV r.lit)[i]? = some (varV x.lit) := by rw [List.getElem?_map, hi]; rfl
    have h2 : (rows.map fun r => varV r.lit)[m]? = some (varV r.lit) := by rw [List.getElem?_map, hr]; rfl
    rw [e] at h1
    have hl1 := (List.getElem?_eq_some_iff.1 h1).1
    have hl2 := (List.getElem?_eq_some_iff.1 h2).1
    have hp := List.pairwise_iff_getElem.1 h i m hl1 hl2 hlt
    rw [(List.getElem?_eq_some_iff.1 h1).2, (List.getElem?_eq_some_iff.1 h2).2] at hp
    exact hp rfl
  · cases hi

theorem addr0 (g k : Nat) : (⟨g, 0, none⟩ : Addr).add k = ⟨g, k, none⟩ := by unfold Addr.add; split <;> simp_all
theorem drop_lits {rows : List TRow} {m : Nat} {r : TRow} (h : rows[m]? = some r) : (litsT (rows.drop m)).reverse = (litsT (rows.drop (m + 1))).reverse ++ [r.lit] := by
  obtain ⟨hq, e⟩ := List.getElem?_eq_some_iff.1 h
  rw [List.drop_eq_getElem_cons hq, e]
  unfold litsT
  rw [List.map_cons, List.reverse_cons]
theorem drop_lits_len (rows : List TRow) (m : Nat) : ((litsT (rows.drop m)).reverse).length = rows.length - m := by simp [litsT]
theorem TrF.same {p gm : Nat} {lv lv' bv : Value} (e : lv'.ownBlock = lv.ownBlock) (b : Nat) : TrF p gm lv' bv b ↔ TrF p gm lv bv b := by unfold TrF; rw [e]
theorem OwnI.lessen {w : World} {a b : Nat} {v : Value} {xs : List Int} (h : OwnI w b v xs) (hab : a ≤ b) : OwnI w a v xs := by
  refine ⟨h.1, ?_⟩
  rcases h.2 with hn | ⟨g, cap, cur, rfl, hb, rest⟩
  · exact .inl hn
  · exact .inr ⟨g, cap, cur, rfl, by omega, rest⟩

set_option maxHeartbeats 4000000 in
theorem trBack_c (w : World) (base p gm : Nat) (lv bv : Value) (S : TSt) (vars : Nat) (bs : List Int) (lev : Int) (hv : S.vars = vars) (h : TrMem w base p gm lv bv vars S.rows bs) (hI : TInv S) (hb : beginsOk S.rows S.depth bs) (h1 : -9223372036854775808 ≤ lev) (h2 : lev ≤ 9223372036854775807) :
    Calls Try.prog 20 #[.pointer (some ⟨p, 0, none⟩), .int .i64 lev] w (RetBack S lev base p gm lv bv vars w) := by
  obtain ⟨sv, rows, depth⟩ := S
  obtain rfl : sv = vars := hv
  have c1 := h.blk.cell 1
  have c2 := h.blk.cell 2
  have c3 := h.blk.cell 3
  have hc0 : 0 ≤ clampV lev := by unfold clampV; split <;> omega
  obtain ⟨kk, hkk⟩ := Int.eq_ofNat_of_zero_le hc0
  have hif : (if lev < 0 then (0 : Int) else lev) = (kk : Int) := hkk
  have hd : (bs.length : Int) = depth := hb.1
  by_cases hk : kk < bs.length
  · have hne : bs ≠ [] := fun e => by rw [e] at hk; simp at hk
    obtain ⟨gb, cb, rfl, hcb⟩ := h.beg.full hne
    have hlt : (kk : Int) < (bs.length : Int) := by omega
    have hk1 : (kk : Int) ≤ (cb : Int) := by omega
    have hk2 : (0 : Int) ≤ (kk : Int) := by omega
    have hsb := h.smb
    have hcnt : bs[kk]? = some (((upTo rows kk).length : Nat) : Int) := by
      have e : bs[kk]? = some bs[kk] := List.getElem?_eq_getElem hk
      rw [e, hb.2 kk _ e]
    obtain ⟨u1, u2, u3⟩ := upTo_len hI.sorted kk
    have HBO : Hid (backO ⟨vars, rows, depth⟩ lev = (litsT (rows.drop (upTo rows kk).length)).reverse) := by unfold Hid backO; dsimp only; rw [hkk, u2]
    have HBT : Hid ((backT ⟨vars, rows, depth⟩ lev).rows = rows.take (upTo rows kk).length ∧ (backT ⟨vars, rows, depth⟩ lev).depth = kk) := by
      unfold Hid backT; dsimp only; rw [hkk, u1, if_pos (by omega)]; exact ⟨rfl, rfl⟩
    have HBE : Hid (beginsOk (rows.take (upTo rows kk).length) kk (bs.take kk)) := by unfold Hid; rw [u1]; exact begins_back (S := ⟨vars, rows, depth⟩) hb (by show (kk : Int) < depth; omega)
    generalize (upTo rows kk).length = cnt at hcnt HBO HBT HBE u3
    have hsm := h.sm
    have HND := Lib.hid hI.nodup
    have HH := Lib.hid h
    have HD := Lib.hid hd
    have HB := Lib.hid hb
    have hszp : p < w.heap.size := h.blk.lt
    have hbase : base ≤ w.heap.size := by have := h.bp; omega
    clear hkk hc0 u1 u2 hd hb hI
    go_enter Try.func20, Try.ntmps20
    go_wp2_with (go_at_call 51; refine (trIs_c _ _ c3).mono ?_; rintro e w' ⟨rfl, rfl⟩)
    refine (popper_c p _).mono ?_
    rintro e w1 ⟨rfl, hw1⟩
    have hx1 : Ext w w1 := by rw [hw1]; (repeat (first | with_reducible exact Ext.refl _ | with_reducible apply Ext.alloc | with_reducible apply Ext.drew | with_reducible apply Ext.drewN | (apply Ext.trans'; assumption)))
    have hq : Blk w1 w.heap.size 24 #[.pointer (some ⟨p, 0, none⟩)] := by rw [hw1]; exact Blk.new w _ _
    have hs1 : w1.heap.size = w.heap.size + 1 := by rw [hw1]; simp
    have HX1 := Lib.hid hx1
    have HQ := Lib.hid hq
    have HS1 := Lib.hid hs1
    clear hw1 hx1 hq hs1 c1 c2 c3
    go_wp2
    go_loopw [6] (fun v wr => ∃ (m : Nat) (lv' : Value), cnt ≤ m ∧ m ≤ rows.length ∧ TrMem wr base p gm lv' (.slice (some ⟨gb, 0, none⟩) bs.length cb) vars (rows.take m) bs ∧ lv'.ownBlock = lv.ownBlock ∧ OwnI wr w1.heap.size v ((litsT (rows.drop m)).reverse) ∧ Stay (TrF p gm lv (.slice (some ⟨gb, 0, none⟩) bs.length cb)) w wr ∧ Blk wr w.heap.size 24 #[.pointer (some ⟨p, 0, none⟩)] ∧ w1.heap.size ≤ wr.heap.size) (fun v _ => rows.length - slen v)
    case atStart =>
      refine ⟨rows.length, lv, u3, Nat.le_refl _, ?_, rfl, ?_, HX1.out.stay, HQ.out, Nat.le_refl _⟩
      · rw [List.take_length]; exact HH.out.ext HX1.out
      · rw [List.drop_length]; exact OwnI.nil _ _
    case round =>
      obtain ⟨m, lv', hm1, hm2, hM, hlv, ho, hS, hQ, hsz⟩ := hrel
      have HLV := Lib.hid hlv
      have HO := Lib.hid ho
      have HS := Lib.hid hS
      have HQR := Lib.hid hQ
      have HM := Lib.hid hM
      obtain ⟨Al, nl, cl, rfl, hll, hlc, hnl⟩ := hM.lsl
      have hnl2 : nl = m := by rw [hnl, List.length_take]; omega
      subst hnl2
      have d1 := hM.blk.cell 1
      have d2 := hM.blk.cell 2
      have hcell : wr.cell? ⟨gb, kk, none⟩ = some (.int .i64 (cnt : Int)) := by
        have h0 : wr.ownsRow base 3 1 (.slice (some ⟨gb, 0, none⟩) bs.length cb) bs.length (bs.map (Value.int .i64)) := hM.beg
        have := h0.cells (g := gb) rfl kk (.int .i64 (cnt : Int)) (by rw [List.getElem?_map, hcnt]; rfl)
        rwa [addr0] at this
      have HCNT := Lib.hid hcnt
      clear hlv ho hS hQ hM hll hnl hcnt
      by_cases hgt : cnt < nl
      · obtain ⟨m', rfl⟩ : ∃ m', nl = m' + 1 := ⟨nl - 1, by omega⟩
        obtain ⟨r, hr⟩ : ∃ r, rows[m']? = some r := ⟨_, List.getElem?_eq_getElem (by omega)⟩
        have ht : rows.take (m' + 1) = rows.take m' ++ [r] := take_succ_of hr
        have HDR := Lib.hid (drop_lits hr)
        have HNT := Lib.hid (nodup_take HND.out hr)
        have hMM := HM.out
        rw [ht] at hMM
        have hrl := check_var (hMM.ok r (by simp))
        have hr1 : -9223372036854775808 ≤ r.lit ∧ r.lit ≤ 9223372036854775807 := by omega
        have HMM := Lib.hid hMM
        have hgtI : (cnt : Int) < ((m' + 1 : Nat) : Int) := by omega
        clear hr ht hMM hrl
        go_wp2
        go_quiet (fail)
        go_wp2_with fail
        refine (trPop_c _ base p gm w.heap.size _ _ vars (rows.take m') r bs (HMM.out.ext ((Ext.refl _).drewN _)) HNT.out (HQR.out.drewN _)).mono ?_
        rintro e w3 ⟨rfl, lv3, m3, l3, s3⟩
        have hsz3 : w1.heap.size ≤ w3.heap.size := Nat.le_trans hsz s3.size
        have hout : ∀ k, w.heap.size ≤ k → ¬ TrF p gm (.slice Al (m' + 1) cl) (.slice (some ⟨gb, 0, none⟩) bs.length cb) k := fun k hk hf => by
          have := (HH.out.lt ((TrF.same HLV.out k).1 hf)).2
          omega
        have ho3 := (HO.out.ext ((Ext.refl _).drewN _)).stay s3 (fun k e => hout k (by have := (HO.out.blk k e).1; have := HS1.out; omega))
        have hl3 := drop_lits_len rows (m' + 1)
        have hl3' : (litsT (rows.drop (m' + 1))).reverse.length + 1 ≤ 10000000000000 := by omega
        have HL3 := Lib.hid hl3'
        have HO3 := Lib.hid ho3
        have HM3 := Lib.hid m3
        have HLV3 := Lib.hid (l3.trans HLV.out)
        have HS3 : Hid (Stay (TrF p gm lv (.slice (some ⟨gb, 0, none⟩) bs.length cb)) w w3) := (HS.out.drewN _).trans s3 (fun j _ hf => (TrF.same HLV.out j).1 hf)
        have HQ3 := Lib.hid (s3.blk (HQR.out.drewN _) (hout _ (Nat.le_refl _)))
        clear ho3 hl3 hl3' m3 l3 s3 hout
        go_wp2_with (at_builtin; refine append1 _ rfl (.tmp 36) (.tmp 39) rfl w1.heap.size _ _ rfl (HO3.out.alloc _) _ _ _ rfl (cell_one _ _ _) hr1 HL3.out (by simp; omega) ?_; intro v4 w4 ho4 hg4 hloc; have HO4 := Lib.hid ho4; have HG4 := Lib.hid hg4; clear ho4 hg4 hloc)
        go_roundw
        case rel =>
          have hs1 := HS1.out
          have hrow : ∀ k, u6.ownBlock = some k → w.heap.size + 1 ≤ k := fun k e => by have := (HO.out.blk k e).1; omega
          refine ⟨m', lv3, by omega, by omega, ?_, HLV3.out, by rw [HDR.out]; exact HO4.out, ?_, ?_, by have := HG4.out.size; simp at this; omega⟩
          · refine HM3.out.same fun b hb hf => ?_
            rw [HG4.out.block b (by simp; omega) (fun e => by have := hrow b e.symm; have := (HH.out.lt ((TrF.same HLV3.out b).1 hf)).2; omega)]
            exact Below.heap_alloc w3 _ b hb
          · exact (HS3.out.alloc _).grown HG4.out (fun k e => Or.inr (by have := hrow k e; omega))
          · exact (HQ3.out.alloc _).grown HG4.out (fun e => by have := hrow _ e.symm; omega)
        case measure =>
          have e1 := HO.out.slen
          have e2 := HO4.out.slen
          have e3 := drop_lits_len rows (m' + 1)
          rw [List.length_append] at e2
          simp at e2 e3 e1
          rw [e1, e2]
          omega
      · have hle : ¬ ((cnt : Int) < (nl : Int)) := by omega
        obtain rfl : nl = cnt := by omega
        have f2 := HM.out.blk.frozen 2
        go_wp2
        go_quiet (fail)
        go_wp2
        go_ret
        have hend := back_end (k := kk) HM.out (by omega)
        have gset : ∀ W : World, W.grownBy (W.setCell ⟨p, 2, none⟩ (.slice (some ⟨gb, 0, none⟩) kk cb)) (some p) := fun W => ⟨rfl, rfl, rfl, by rw [World.size_setCell]; exact Nat.le_refl _, fun j _ hj => Below.heap_setCell W _ _ j (fun e => hj (by rw [e]))⟩
        refine ⟨_, bs.take kk, rfl, ?_, ⟨.slice Al nl cl, .slice (some ⟨gb, 0, none⟩) kk cb, ?_, ?_, ?_⟩, ?_⟩
        · rw [HBO.out]
          have h1 : OwnI wr w.heap.size u6 _ := HO.out.lessen (by have := HS1.out; omega)
          exact (h1.drewN _).kept (gset _) (Or.inr (fun e => by have := (HO.out.blk p e).1; have := HS1.out; omega))
        · rw [HBT.out.1]; exact hend.same (fun b _ _ => rfl)
        · exact (HS.out.drewN _).setCell (Or.inl (Or.inl rfl)) _
        · intro b hb
          refine Or.inl ?_
          rcases hb with hb | hb | hb | hb
          · exact Or.inl hb
          · exact Or.inr (Or.inl hb)
          · exact Or.inr (Or.inr (Or.inl (by rw [← HLV.out]; exact hb)))
          · exact Or.inr (Or.inr (Or.inr hb))
        · rw [HBT.out.1, HBT.out.2]; exact HBE.out
  · obtain ⟨Ab, nb, cb, rfl, hbb, hbc, hnb⟩ := h.bsl
    subst hnb
    have hall : upTo rows (kk : Int) = rows := upTo_all (fun r hr => by have : r.level ≤ depth := (hI.lev0 r hr).2; omega)
    have hbe : beyond rows (kk : Int) = [] := by
      have e := (upTo_len hI.sorted kk).2.1
      rw [← e, hall]
      exact List.drop_length
    have HBO : Hid (backO ⟨vars, rows, depth⟩ lev = []) := by unfold Hid backO; dsimp only; rw [hkk, hbe]; rfl
    have HBT : Hid ((backT ⟨vars, rows, depth⟩ lev).rows = rows ∧ (backT ⟨vars, rows, depth⟩ lev).depth = depth) := by
      unfold Hid backT; dsimp only; rw [hkk, hall, if_neg (by omega)]; exact ⟨rfl, rfl⟩
    have hge : ¬ ((kk : Int) < (bs.length : Int)) := by omega
    have HD := Lib.hid hd
    clear hall hbe hkk hc0 hd hk
    go_enter Try.func20, Try.ntmps20
    go_wp2_with (go_at_call 51; refine (trIs_c _ _ c3).mono ?_; rintro e w' ⟨rfl, rfl⟩)
    go_ret
    refine ⟨_, bs, rfl, by rw [HBO.out]; exact OwnI.nil _ _, ?_, ?_⟩
    · rw [HBT.out.1]; exact ⟨lv, _, h, Stay.refl _ _, fun b hb => Or.inl hb⟩
    · rw [HBT.out.1, HBT.out.2]; exact hb
end Go.Proofs.Ytbkimfefbdfkbaa
