/- Layer 13 (trail): a literal is put behind all; Decide, Imply. -/
import Derived.Test.YtbkimfefbdfkbaaTrail2
import Derived.Deep.RegionHeld3
import Derived.Test.YtbkimfefbdfkbaaStill
set_option maxRecDepth 100000
namespace Go.Proofs.Ytbkimfefbdfkbaa
open Go.RowKit

/-- A trail was changed: its new rows, and that nothing has turned but its blocks. -/
def TrF (p gm : Nat) (lv bv : Value) (b : Nat) : Prop := b = p ∨ b = gm ∨ lv.ownBlock = some b ∨ bv.ownBlock = some b
def TrTurn (w w' : World) (base p gm : Nat) (lv bv : Value) (vars : Nat) (rows : List TRow) (bs : List Int) : Prop :=
  ∃ lv' bv', TrMem w' base p gm lv' bv' vars rows bs ∧ Stay (TrF p gm lv bv) w w' ∧ (∀ b, TrF p gm lv' bv' b → TrF p gm lv bv b ∨ w.heap.size ≤ b)

theorem MarksOk.put {cs cur : Array Value} {vars j : Nat} {rows : List TRow} {l lvl rs s : Int} (h : MarksOk cs vars rows) (hs : cur.size = cs.size) (hj : varV l = j) (hn : ∀ r ∈ rows, varV r.lit ≠ varV l) (hsg : s = if l < 0 then -1 else 1)
    (hget : ∀ i : Nat, cur[i]? = if j * 4 ≤ i ∧ i < j * 4 + (#[Value.int .i64 s, .int .i64 lvl, .int .i64 rs, .int .i64 rows.length]).size then (#[Value.int .i64 s, .int .i64 lvl, .int .i64 rs, .int .i64 rows.length])[i - j * 4]? else cs[i]?) :
    MarksOk cur vars (rows ++ [⟨l, lvl, rs⟩]) := by
  refine ⟨hs.trans h.1, fun v k hv hk => ?_⟩
  rw [hget]
  by_cases e : v = j
  · subst e
    rw [if_pos (by simp; omega), show v * 4 + k - v * 4 = k by omega]
    have hr := rowOf_snoc_new (r := ⟨l, lvl, rs⟩) (v := (v : Int)) (fun x hx => by rw [← hj]; exact hn x hx) hj
    have hp := placeV_snoc_new (r := ⟨l, lvl, rs⟩) (v := (v : Int)) (fun x hx => by rw [← hj]; exact hn x hx) hj
    match k, hk with
    | 0, _ => simp only [markF, hr]; rw [hsg]; rfl
    | 1, _ => simp only [markF, hr]; rfl
    | 2, _ => simp only [markF, hr]; rfl
    | 3, _ => simp only [markF, hr, hp]; rfl
  · rw [if_neg (by simp; omega), markF_snoc_other (by show varV l ≠ v; rw [hj]; omega)]
    exact h.2 v k hv hk

theorem put_end {W w2 w3 : World} {base p gm : Nat} {lv bv v' : Value} {vars : Nat} {rows rows' : List TRow} {bs : List Int} {cur : Array Value} {o : Obj} (hM : TrMem W base p gm lv bv vars rows bs)
    (hg2 : Blk w2 gm 90 cur) (hgr : W.grownBy w2 (some gm)) (hok : MarksOk cur vars rows') (hg3 : (w2.alloc o).grownBy w3 lv.ownBlock) (ho : OwnI w3 base v' (litsT rows')) (hloc : v'.ownBlock = lv.ownBlock ∨ v'.ownBlock = some (w2.alloc o).heap.size)
    (hrok : ∀ r ∈ rows', checkV r.lit vars = 0) (hsm : rows'.length ≤ 1000000000) : TrTurn W (w3.setCell ⟨p, 1, none⟩ v') base p gm lv bv vars rows' bs := by
  obtain ⟨cs, hgm, _⟩ := hM.mks
  have npg : p ≠ gm := hM.blk.ne_ hgm (by decide)
  have lp : lv.ownBlock ≠ some p := hM.lits.ne_blk hM.blk (by decide)
  have lg : lv.ownBlock ≠ some gm := hM.lits.ne_blk hgm (by decide)
  have bp' : bv.ownBlock ≠ some p := hM.beg.ne_blk hM.blk (by decide)
  have bg' : bv.ownBlock ≠ some gm := hM.beg.ne_blk hgm (by decide)
  have hp2 := (hM.blk.grown hgr (by simpa using npg)).alloc o
  have hp3 := hp2.grown hg3 (Ne.symm lp)
  have hp4 := hp3.set_ 1 v'
  have hg3' := (hg2.alloc o).grown hg3 (Ne.symm lg)
  have hg4 := hg3'.far (p := ⟨p, 1, none⟩) (Ne.symm npg) v'
  have hsz2 : W.heap.size ≤ (w2.alloc o).heap.size := by have := hgr.size; simp; omega
  have vp : v'.ownBlock ≠ some p := ho.ne_blk hp3 (by decide)
  have hb2 := (hM.beg.kept hgr (Or.inr bg')).alloc o
  have hb3 := hb2.kept hg3 hM.ap.symm.kept
  have gset : w3.grownBy (w3.setCell ⟨p, 1, none⟩ v') (some p) := ⟨rfl, rfl, rfl, by rw [World.size_setCell]; exact Nat.le_refl _, fun k _ hk => Below.heap_setCell w3 _ v' k (fun e => hk (by rw [e]))⟩
  have S0 : Stay (TrF p gm lv bv) W W := Stay.refl _ _
  have S1 := S0.grown hgr (fun k e => by cases e; exact Or.inl (Or.inr (Or.inl rfl)))
  have S2 := (S1.alloc o).grown hg3 (fun k e => Or.inl (Or.inr (Or.inr (Or.inl e))))
  have S3 := S2.grown gset (fun k e => by cases e; exact Or.inl (Or.inl rfl))
  refine ⟨v', bv, ⟨hp4, ⟨cur, hg4, hok⟩, ho.kept gset (Or.inr vp), hb3.kept gset (Or.inr bp'), hM.ap.grow hloc (fun k e => by have := (hM.beg.blk k e).2; omega), hM.bp, hM.bg, hrok, hsm, hM.smb, hM.bb, hM.vs⟩, S3, fun b hb => ?_⟩
  rcases hb with hb | hb | hb | hb
  · exact Or.inl (Or.inl hb)
  · exact Or.inl (Or.inr (Or.inl hb))
  · rcases hloc with e | e
    · exact Or.inl (Or.inr (Or.inr (Or.inl (e ▸ hb))))
    · rw [e] at hb; injection hb with hb; exact Or.inr (by omega)
  · exact Or.inl (Or.inr (Or.inr (Or.inr hb)))
theorem TrTurn.before {w W w' : World} {base p gm : Nat} {lv bv : Value} {vars : Nat} {rows : List TRow} {bs : List Int} (hx : Ext w W) (h : TrTurn W w' base p gm lv bv vars rows bs) : TrTurn w w' base p gm lv bv vars rows bs := by
  obtain ⟨a, b, h1, h2, h3⟩ := h
  exact ⟨a, b, h1, Stay.ext_trans hx h2, fun k hk => by rcases h3 k hk with e | e; exact Or.inl e; exact Or.inr (by have := hx.size_le; omega)⟩

set_option maxRecDepth 100000 in
set_option maxHeartbeats 2000000 in
theorem trPut_c (w : World) (base p gm : Nat) (lv bv : Value) (vars : Nat) (rows : List TRow) (bs : List Int) (l rs : Int) (h : TrMem w base p gm lv bv vars rows bs) (hc : checkV l vars = 0) (hn : ∀ r ∈ rows, varV r.lit ≠ varV l) (hsm : rows.length < 1000000000) :
    Calls Try.prog 69 #[.pointer (some ⟨p, 0, none⟩), .int .i64 l, .int .i64 rs] w fun e w' => e = .returned (.tuple #[]) ∧ TrTurn w w' base p gm lv bv vars (rows ++ [⟨l, bs.length, rs⟩]) bs := by
  obtain ⟨Al, nl, cl, rfl, hl, hlc, hnl⟩ := h.lsl
  obtain ⟨Ab, nb, cb, rfl, hb, hbc, hnb⟩ := h.bsl
  have c0 := h.blk.cell 0
  have c1 := h.blk.cell 1
  have c2 := h.blk.cell 2
  have hvs := h.vs
  have hsz := h.blk.lt
  obtain ⟨g1, g2, g3, g4, g5, g6⟩ := check_var hc
  obtain ⟨j, hj⟩ := Int.eq_ofNat_of_zero_le (show 0 ≤ varV l by omega)
  have hj2 : j ≤ vars := by omega
  have b0 : (0 : Int) ≤ (j : Int) := by omega
  have b1 : (j : Int) < (vars : Int) + 1 := by omega
  have q : ∀ W, Calls Try.prog 56 #[.int .i64 l] W fun e w' => e = .returned (.int .i64 (j : Int)) ∧ w' = W := fun W => (var_c l _).mono fun e w' ⟨he, hw⟩ => ⟨by rw [he, hj], hw.symm⟩
  have HJ := Lib.hid hj
  have HC := Lib.hid hc
  have HN := Lib.hid hn
  subst hnl
  subst hnb
  clear hj hc hn g1 g2 g6
  by_cases hneg : l < 0
  · have hsg : (-1 : Int) = if l < 0 then -1 else 1 := by rw [if_pos hneg]
    have HSG := Lib.hid hsg
    clear hsg
    go_enter Try.func69, Try.ntmps69
    go_wp2
    go_region_held3 (fun w' => w'.cell? ⟨p, 1, none⟩ = some (.slice Al rows.length cl) ∧ w'.cell? ⟨p, 2, none⟩ = some (.slice Ab bs.length cb)) (go_keep) (fail)
    go_wp2
    refine still_tailV 8 (by kernel_rfl) (by kernel_rfl) fun W hW => ?_
    have hX : Ext w W := by rw [hW]; (repeat (first | with_reducible exact Ext.refl _ | with_reducible apply Ext.alloc | with_reducible apply Ext.drew | with_reducible apply Ext.drewN | (apply Ext.trans'; assumption)))
    have hB : Blk W w.heap.size 90 #[.int .i64 (-1), .int .i64 bs.length, .int .i64 rs, .int .i64 rows.length] := by rw [hW]; exact Blk.new w _ _
    have hM := h.ext hX
    have c0 := hM.blk.cell 0
    have l0 := hB.cell 0
    have l1 := hB.cell 1
    have l2 := hB.cell 2
    have l3 := hB.cell 3
    have HX := Lib.hid hX
    have HM := Lib.hid hM
    clear hW hX hB hM
    simp only [List.take_succ_cons, List.take_zero, List.drop_succ_cons, List.drop_zero]
    repeat still_step
    still_call (q _)
    repeat still_step
    refine wpStill_nil ?_
    obtain ⟨cs, hg, hok⟩ := HM.out.mks
    refine store_at rfl 90 (.tmp 29) (.tmp 28) rfl gm (j * 4) rfl #[.int .i64 (-1), .int .i64 bs.length, .int .i64 rs, .int .i64 rows.length] rfl 90 cs hg (by rw [hok.1]; simp; omega) (by kernel_rfl) (by simp; exact ⟨rfl, rfl, rfl, rfl⟩) ?_
    intro w2 cur hg2 hgr hcs hget
    have npg : p ≠ gm := HM.out.blk.ne_ hg (by decide)
    have hp2 := HM.out.blk.grown hgr (by simpa using npg)
    have k1 := hp2.cell 1
    have hl2 := HM.out.lits.kept hgr (Or.inr (HM.out.lits.ne_blk hg (by decide)))
    have hsz2 : base ≤ w2.heap.size := by have := hgr.size; have := HM.out.blk.lt; have := HM.out.bp; omega
    have HMK := Lib.hid (MarksOk.put hok hcs HJ.out HN.out HSG.out hget)
    have HG2 := Lib.hid hg2
    have HGR := Lib.hid hgr
    have HP2 := Lib.hid hp2
    have HL2 := Lib.hid hl2
    clear hg hok hg2 hgr hcs hget npg hp2 hl2 c0 l0 l1 l2 l3
    go_wp2_with (at_builtin; refine append1 _ rfl (.tmp 34) (.tmp 36) rfl base _ _ rfl (HL2.out.alloc _) _ _ _ rfl (cell_one _ _ _) (by omega) (by rw [litsT_len]; omega) (by simp; omega) ?_; intro v3 w3 ho3 hg3 hloc; obtain ⟨A3, n3, c3, rfl⟩ := ho3.form; have hp3 := (HP2.out.alloc _).grown hg3 (Ne.symm (HL2.out.ne_blk HP2.out (by decide))); have s1 := hp3.cell 1; have f1 := hp3.frozen 1; clear hp3; have HO3 := Lib.hid ho3; have HG3 := Lib.hid hg3; have HLOC := Lib.hid hloc; clear ho3 hg3 hloc)
    go_end0
    refine ⟨rfl, TrTurn.before HX.out (put_end HM.out HG2.out HGR.out HMK.out HG3.out ?_ HLOC.out ?_ (by simp; omega))⟩
    · have := HO3.out
      unfold litsT
      rw [List.map_append]
      exact this
    · intro r hr
      rcases List.mem_append.1 hr with hr | hr
      · exact HM.out.ok r hr
      · rw [List.mem_singleton.1 hr]; exact HC.out
  · have hsg : (1 : Int) = if l < 0 then -1 else 1 := by rw [if_neg hneg]
    have HSG := Lib.hid hsg
    clear hsg
    go_enter Try.func69, Try.ntmps69
    go_wp2
    go_region_held3 (fun w' => w'.cell? ⟨p, 1, none⟩ = some (.slice Al rows.length cl) ∧ w'.cell? ⟨p, 2, none⟩ = some (.slice Ab bs.length cb)) (go_keep) (fail)
    go_wp2
    refine still_tailV 8 (by kernel_rfl) (by kernel_rfl) fun W hW => ?_
    have hX : Ext w W := by rw [hW]; (repeat (first | with_reducible exact Ext.refl _ | with_reducible apply Ext.alloc | with_reducible apply Ext.drew | with_reducible apply Ext.drewN | (apply Ext.trans'; assumption)))
    have hB : Blk W w.heap.size 90 #[.int .i64 1, .int .i64 bs.length, .int .i64 rs, .int .i64 rows.length] := by rw [hW]; exact Blk.new w _ _
    have hM := h.ext hX
    have c0 := hM.blk.cell 0
    have l0 := hB.cell 0
    have l1 := hB.cell 1
    have l2 := hB.cell 2
    have l3 := hB.cell 3
    have HX := Lib.hid hX
    have HM := Lib.hid hM
    clear hW hX hB hM
    simp only [List.take_succ_cons, List.take_zero, List.drop_succ_cons, List.drop_zero]
    repeat still_step
    still_call (q _)
    repeat still_step
    refine wpStill_nil ?_
    obtain ⟨cs, hg, hok⟩ := HM.out.mks
    refine store_at rfl 90 (.tmp 29) (.tmp 28) rfl gm (j * 4) rfl #[.int .i64 1, .int .i64 bs.length, .int .i64 rs, .int .i64 rows.length] rfl 90 cs hg (by rw [hok.1]; simp; omega) (by kernel_rfl) (by simp; exact ⟨rfl, rfl, rfl, rfl⟩) ?_
    intro w2 cur hg2 hgr hcs hget
    have npg : p ≠ gm := HM.out.blk.ne_ hg (by decide)
    have hp2 := HM.out.blk.grown hgr (by simpa using npg)
    have k1 := hp2.cell 1
    have hl2 := HM.out.lits.kept hgr (Or.inr (HM.out.lits.ne_blk hg (by decide)))
    have hsz2 : base ≤ w2.heap.size := by have := hgr.size; have := HM.out.blk.lt; have := HM.out.bp; omega
    have HMK := Lib.hid (MarksOk.put hok hcs HJ.out HN.out HSG.out hget)
    have HG2 := Lib.hid hg2
    have HGR := Lib.hid hgr
    have HP2 := Lib.hid hp2
    have HL2 := Lib.hid hl2
    clear hg hok hg2 hgr hcs hget npg hp2 hl2 c0 l0 l1 l2 l3
    go_wp2_with (at_builtin; refine append1 _ rfl (.tmp 34) (.tmp 36) rfl base _ _ rfl (HL2.out.alloc _) _ _ _ rfl (cell_one _ _ _) (by omega) (by rw [litsT_len]; omega) (by simp; omega) ?_; intro v3 w3 ho3 hg3 hloc; obtain ⟨A3, n3, c3, rfl⟩ := ho3.form; have hp3 := (HP2.out.alloc _).grown hg3 (Ne.symm (HL2.out.ne_blk HP2.out (by decide))); have s1 := hp3.cell 1; have f1 := hp3.frozen 1; clear hp3; have HO3 := Lib.hid ho3; have HG3 := Lib.hid hg3; have HLOC := Lib.hid hloc; clear ho3 hg3 hloc)
    go_end0
    refine ⟨rfl, TrTurn.before HX.out (put_end HM.out HG2.out HGR.out HMK.out HG3.out ?_ HLOC.out ?_ (by simp; omega))⟩
    · have := HO3.out
      unfold litsT
      rw [List.map_append]
      exact this
    · intro r hr
      rcases List.mem_append.1 hr with hr | hr
      · exact HM.out.ok r hr
      · rw [List.mem_singleton.1 hr]; exact HC.out
end Go.Proofs.Ytbkimfefbdfkbaa
