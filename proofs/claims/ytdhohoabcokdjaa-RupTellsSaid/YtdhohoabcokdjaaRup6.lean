/- Layer 8 (rup): gather and Hints. -/
import Derived.Test.YtdhohoabcokdjaaRup5
import Derived.Laws.EntriesVeiled
set_option maxRecDepth 100000
namespace Go.Proofs.Ytdhohoabcokdjaa
open Go.RowKit Go.Maps

theorem all_c (go : Nat) (v : Value) (w : World) (h : w.cell? ⟨go, 0, none⟩ = some v) :
    Calls Try.prog 93 #[.pointer (some ⟨go, 0, none⟩)] w fun e w' => e = .returned v ∧ w = w' := by
  go_enter Try.func93, Try.ntmps93
  go_wp2
  go_ret
  exact ⟨rfl, rfl⟩

theorem run_makeMap_none {P : Program} (t : TypeId) (w : World) :
    (Instr.makeMap t none).run P w = .ok (.map (some w.heap.size)) (w.alloc (.map #[] 0)) := by
  simp only [Instr.makeMap, Sem.run_bind]; rfl

theorem Blk.newg {w : World} {g : Nat} (t : TypeId) (cs : Array Value) (hg : w.heap.size = g) : Blk (w.alloc (.cells cs t)) g t cs := by subst hg; exact Blk.new w t cs
theorem Cnt.newg {w : World} {g : Nat} (hg : w.heap.size = g) : Cnt (w.alloc (.map #[] 0)) g ([] : List Int).length (cntV []) := by subst hg; rw [cntV_nil]; exact Cnt.made w

/-- What gather hands back. -/
def RetGather (base gp bb : Nat) (A : Option Addr) (n c kb : Nat) (f : Int → Option Int) (w0 : World) (e : Ending) (w' : World) : Prop :=
  ∃ gs gt gf go sb, e = .returned (.tuple #[.func (.func 92) #[] #[.pointer (some ⟨gs, 0, none⟩), .pointer (some ⟨gt, 0, none⟩), .pointer (some ⟨gf, 0, none⟩), .pointer (some ⟨go, 0, none⟩)], .func (.func 93) #[] #[.pointer (some ⟨go, 0, none⟩)]]) ∧
    GMem base gs gt gf go gp sb bb A n c kb f w' (.slice none 0 0) [] [] ∧ Ext w0 w'

set_option maxHeartbeats 2000000 in
theorem gather_c (w0 w : World) (gp bb : Nat) (A : Option Addr) (n c kb : Nat) (f : Int → Option Int) (hX : Ext w0 w) (hp : Blk w gp 87 #[.slice A n c, .map (some bb)]) (hm : MapO w bb kb f) :
    Calls Try.prog 59 #[.pointer (some ⟨gp, 0, none⟩)] w (RetGather w0.heap.size gp bb A n c kb f w0) := by
  have hmm := fun (W : World) => run_makeMap_none (P := Try.prog) 85 W
  have hsz := hX.size_le
  have hml := hm.lt
  have HX := Lib.hid hX
  have HP := Lib.hid hp
  have HM := Lib.hid hm
  clear hX hp hm
  go_enter Try.func59, Try.ntmps59
  go_wp2
  go_ret2
  have hms : Cnt _ (w.heap.size + 1 + 1) ([] : List Int).length (cntV []) := Cnt.newg (w := (w.alloc (Obj.cells #[.pointer (some ⟨gp, 0, none⟩)] 84)).alloc (Obj.cells #[.slice none 0 0] 22)) (by simp)
  refine ⟨w.heap.size + 1 + 1 + 1, w.heap.size, w.heap.size + 1 + 1 + 1 + 1, w.heap.size + 1, w.heap.size + 1 + 1, rfl, ⟨?_, ?_, ?_, ?_, ?_, ?_, ?_, OwnI.nil _ _, by omega, by omega, by omega⟩, ?_⟩
  · exact (Blk.newg _ _ (by simp)).alloc _
  · exact ((((Blk.newg _ _ rfl).alloc _).alloc _).alloc _).alloc _
  · exact Blk.newg _ _ (by simp)
  · exact (((Blk.newg _ _ (by simp)).alloc _).alloc _).alloc _
  · exact ((((HP.out.alloc _).alloc _).alloc _).alloc _).alloc _
  · exact (hms.ext ((Ext.refl _).alloc _)).ext ((Ext.refl _).alloc _)
  · exact HM.out.ext (by (repeat (first | with_reducible exact Ext.refl _ | with_reducible apply Ext.alloc | with_reducible apply Ext.drew | with_reducible apply Ext.drewN | (apply Ext.trans'; assumption))))
  · exact HX.out.trans (by (repeat (first | with_reducible exact Ext.refl _ | with_reducible apply Ext.alloc | with_reducible apply Ext.drew | with_reducible apply Ext.drewN | (apply Ext.trans'; assumption))))

/-- What Hints comes to. -/
def HintsOk (L : List (List Int)) (c l : List Int) (b : Bool) : Prop :=
  b = (decide (startE c = 0) && refutesV L c) ∧ (b = false → l = []) ∧ (b = true → (∀ i ∈ l, 0 ≤ i ∧ i < (L.length : Int)) ∧ l.length ≤ L.length ∧ (chainV (startV c) (rowsN L l) 0).2 = ((l.length : Int), 0))
def RetHints (L : List (List Int)) (cl : List Int) (w : World) (e : Ending) (w' : World) : Prop :=
  ∃ A n c l b, e = .returned (.tuple #[.slice A n c, .bool b]) ∧ IntSl w' A n l ∧ HintsOk L cl l b ∧ Ext w w'

theorem HintsOk.no {L : List (List Int)} {c : List Int} (h : (decide (startE c = 0) && refutesV L c) = false) : HintsOk L c [] false := ⟨h.symm, fun _ => rfl, fun h => by cases h⟩

set_option maxRecDepth 100000 in
set_option maxHeartbeats 4000000 in
theorem hints_c (A : Option Addr) (n c : Nat) (L : List (List Int)) (A' : Option Addr) (n' c' : Nat) (cl : List Int) (w : World) (h : RowsSl w A n L) (h' : IntSl w A' n' cl) (hsm : n' ≤ 100000000) (hsn : n ≤ 100000000) (hM : mostN L ≤ 1000000000) :
    Calls Try.prog 24 #[.slice A n c, .slice A' n' c'] w (RetHints L cl w) := by
  have hmm := fun (W : World) => run_makeMap_none (P := Try.prog) 85 W
  have hlen := startV_len cl
  rw [h'.1] at hlen
  have HB := Lib.hid (startV_bd cl)
  have HLn := Lib.hid h.1
  cases he : decide (startE cl ≠ 0)
  · have he' : startE cl = 0 := by simpa using he
    have HE := Lib.hid he'
    have HGD := Lib.hid (start_good he').1
    clear he he'
    go_enter Try.func24, Try.ntmps24
    go_wp2_with fail
    refine (rupStart_c _ _ _ cl _ h' (by omega)).mono ?_
    rintro e w1 ⟨v, rfl, hv, hx1⟩
    rw [HE.out]
    obtain ⟨Av, nv, cv, rfl⟩ := hv.form
    have HV := Lib.hid hv
    have HX1 := Lib.hid hx1
    have hs1 := hx1.size_le
    clear hv hx1
    go_wp2_with fail
    have hgb := Blk.newg (w := w1.alloc (.map #[] 0)) 87 #[.slice A n c, .map (some w1.heap.size)] (by simp : (w1.alloc (.map #[] 0)).heap.size = w1.heap.size + 1)
    have hmo := (MapO.made w1).ext ((Ext.refl _).alloc (Obj.cells #[.slice A n c, .map (some w1.heap.size)] 87))
    refine (propg_c w _ (w1.heap.size + 1) w1.heap.size A n c L _ (startV cl) h ((HX1.out.alloc _).alloc _) hgb hmo (by omega) ((HV.out.alloc _).alloc _) HGD.out HB.out (by omega) hM).mono ?_
    rintro e w2 ⟨t, f, k, rfl, hF, hend, hmo2, hgb2, hx2⟩
    have HEND := Lib.hid hend
    have HREF := Lib.hid (hints_ref HE.out hF hend)
    have HF := Lib.hid hF
    have HMO2 := Lib.hid hmo2
    have HGB2 := Lib.hid hgb2
    have HX2 := Lib.hid hx2
    clear hF hend hmo2 hgb2 hx2 hgb hmo
    by_cases hk : k < 0
    · have HR : Hid ((decide (startE cl = 0) && refutesV L cl) = false) := by
        unfold Hid; rw [← HREF.out, decide_eq_false (show ¬ 0 ≤ k by omega), Bool.and_false]
      go_wp2_with fail
      go_ret2
      exact ⟨none, 0, 0, [], false, rfl, IntSl.nil _, HintsOk.no HR.out, HX2.out⟩
    · obtain ⟨i, ci, rfl, hi, hfail⟩ := HEND.out.2 (by omega)
      have HI := Lib.hid hi
      have HFAIL := Lib.hid hfail
      clear hi hfail
      go_wp2_with fail
      refine (gather_c w _ (w1.heap.size + 1) w1.heap.size A n c t.length f HX2.out HGB2.out HMO2.out).mono ?_
      rintro e w3 ⟨gs, gt, gf, go, sb, rfl, hg3, hx3⟩
      have HG3 := Lib.hid hg3
      have HX3 := Lib.hid hx3
      clear hg3 hx3
      go_wp2_with fail
      have hdeep := HF.out.deep_last HI.out
      have hfm : f (-9223372036854775808) = none := HF.out.out _ (fun e => HF.out.good.1 _ (List.mem_append_right _ e) (by decide))
      have hfb : ∀ z k, f z = some k → 0 ≤ k := fun z k e => by obtain ⟨_, i, _, _, e2, _⟩ := HF.out.at e; omega
      refine (put_c w gs gt gf go (w1.heap.size + 1) sb w1.heap.size A n c t.length f L h (by omega) hfb hfm (t.length + 1) i _ _ [] [] HG3.out HX3.out hdeep (SOk.nil L)).mono ?_
      rintro e w4 ⟨v4, rfl, hg4, hx4⟩
      have hok := (putV_ok L f (t.length + 1) i ([], []) hdeep (SOk.nil L)).1
      have hshow := hints_show HF.out HI.out HFAIL.out
      have hk4 := hg4.co.cell 0
      have hlen4 : (putV L f (t.length + 1) i ([], [])).2.length ≤ L.length := Nat.le_trans hok.2.2.1 hok.len
      have hbd4 : ∀ x ∈ (putV L f (t.length + 1) i ([], [])).2, 0 ≤ x ∧ x < (L.length : Int) := fun x hx => hok.2.1 x (hok.2.2.2 x hx)
      obtain ⟨A4, n4, c4, rfl, hs4⟩ := hg4.own.sl (by have := HLn.out; omega) (fun x hx => by have := hbd4 x hx; have := HLn.out; omega)
      have HS4 := Lib.hid hs4
      have HX4 := Lib.hid hx4
      have HOK : Hid (HintsOk L cl (putV L f (t.length + 1) i ([], [])).2 true) := by
        unfold Hid
        refine ⟨?_, fun h => (by cases h), fun _ => ⟨hbd4, hlen4, hshow⟩⟩
        rw [← HREF.out, decide_eq_true HE.out, decide_eq_true (show (0 : Int) ≤ i by omega)]; rfl
      clear hg4 hx4 hs4 hok hshow hlen4 hbd4 hdeep hfm hfb
      go_wp2_with fail
      refine (all_c go _ w4 hk4).mono ?_
      rintro e w' ⟨rfl, rfl⟩
      go_wp2_with fail
      go_ret2
      exact ⟨_, _, _, _, true, rfl, HS4.out, HOK.out, HX4.out⟩
  · have he' : startE cl ≠ 0 := by simpa using he
    have HR : Hid ((decide (startE cl = 0) && refutesV L cl) = false) := by unfold Hid; rw [decide_eq_false he']; rfl
    have hb : (startE cl != 0) = true := by simpa using he'
    clear he he'
    go_enter Try.func24, Try.ntmps24
    go_wp2_with fail
    refine (rupStart_c _ _ _ cl _ h' (by omega)).mono ?_
    rintro e w1 ⟨v, rfl, _, hx1⟩
    have HX1 := Lib.hid hx1
    clear hx1
    go_wp2_with fail
    go_ret2
    exact ⟨none, 0, 0, [], false, rfl, IntSl.nil _, HintsOk.no HR.out, HX1.out⟩
end Go.Proofs.Ytdhohoabcokdjaa
