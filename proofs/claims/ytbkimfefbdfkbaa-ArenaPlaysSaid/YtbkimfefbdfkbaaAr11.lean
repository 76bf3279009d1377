/- Layer 12 (arena): New; the law's calls; do; a row of the reference's is the same. -/
import Derived.Test.YtbkimfefbdfkbaaAr10
set_option maxRecDepth 100000
namespace Go.Proofs.Ytbkimfefbdfkbaa
open Go.RowKit

theorem run_makeMap_none {P : Program} (t : TypeId) (w : World) :
    (Instr.makeMap t none).run P w = .ok (.map (some w.heap.size)) (w.alloc (.map #[] 0)) := by
  simp only [Instr.makeMap, Sem.run_bind]; rfl
theorem arNew_c (w : World) : Calls Try.prog 23 #[] w fun e w' => e = .returned (.pointer (some ⟨w.heap.size + 1, 0, none⟩)) ∧ ArMem w' w.heap.size (w.heap.size + 1) w.heap.size (.slice none 0 0) 0 ⟨[], 0⟩ ∧ Ext w w' := by
  have hmk := fun (W : World) => run_makeMap_none (P := Try.prog) 94 W
  go_enter Try.func23, Try.ntmps23
  go_wp2
  go_ret
  refine ⟨rfl, ⟨?_, Or.inl ⟨rfl, rfl⟩, ?_, by omega, Nat.le_refl _, ⟨fun i r h => by simp at h, rfl, fun r h => by cases h⟩, Nat.le_refl _, by omega⟩, by (repeat (first | with_reducible exact Ext.refl _ | with_reducible apply Ext.alloc | with_reducible apply Ext.drew | with_reducible apply Ext.drewN | (apply Ext.trans'; assumption)))⟩
  · have := Blk.new (w.alloc (.map #[] 0)) 96 #[.slice none 0 0, .map (some w.heap.size)]
    rwa [World.size_alloc] at this
  · exact (((Cnt.made w).ext ((Ext.refl _).alloc _)).congr fun z => by simp [headA])

structure ActA where
  kind : Int
  num : Int
  i1 : Int
  i2 : Int
  lits : List Int
  learnt : Bool
def bd64 (x : Int) : Prop := -9223372036854775808 ≤ x ∧ x ≤ 9223372036854775807
def okB (a : ActA) : Prop := bd64 a.kind ∧ bd64 a.num ∧ bd64 a.i1 ∧ bd64 a.i2
/-- A slice of calls. -/
def Acts12 (w : World) (A : Option Addr) (n : Nat) (l : List ActA) : Prop :=
  l.length = n ∧ n ≤ 9223372036854775807 ∧ (∀ a ∈ l, okB a) ∧ (0 < n → ∃ ad, A = some ad ∧ ∀ (k : Nat) (a : ActA), l[k]? = some a → ∃ A' n' c', w.cell? (ad.add (k * 6)) = some (.int .i64 a.kind) ∧ w.cell? ⟨(ad.add (k * 6)).block, (ad.add (k * 6)).off + 1, none⟩ = some (.int .i64 a.num) ∧
    w.cell? ⟨(ad.add (k * 6)).block, (ad.add (k * 6)).off + 2, none⟩ = some (.int .i64 a.i1) ∧ w.cell? ⟨(ad.add (k * 6)).block, (ad.add (k * 6)).off + 3, none⟩ = some (.int .i64 a.i2) ∧ w.cell? ⟨(ad.add (k * 6)).block, (ad.add (k * 6)).off + 4, none⟩ = some (.slice A' n' c') ∧
    w.cell? ⟨(ad.add (k * 6)).block, (ad.add (k * 6)).off + 5, none⟩ = some (.bool a.learnt) ∧ IntSl w A' n' a.lits ∧ n' ≤ c')
theorem Acts12.ext {w w' : World} {A : Option Addr} {n : Nat} {l : List ActA} (h : Acts12 w A n l) (hx : Ext w w') : Acts12 w' A n l := by
  refine ⟨h.1, h.2.1, h.2.2.1, fun hn => ?_⟩
  obtain ⟨ad, e, hc⟩ := h.2.2.2 hn
  refine ⟨ad, e, fun k a hk => ?_⟩
  obtain ⟨A', n', c', h0, h1, h2, h3, h4, h5, h6, h7⟩ := hc k a hk
  exact ⟨A', n', c', hx.cell h0, hx.cell h1, hx.cell h2, hx.cell h3, hx.cell h4, hx.cell h5, h6.ext hx, h7⟩
theorem Acts12.at_ {w : World} {A : Option Addr} {n : Nat} {l : List ActA} (h : Acts12 w A n l) {k : Nat} (hk : k < n) : ∃ ad a A' n' c', A = some ad ∧ Hid (l[k]? = some a) ∧ okB a ∧ w.cell? (ad.add (k * 6)) = some (.int .i64 a.kind) ∧ w.cell? ⟨(ad.add (k * 6)).block, (ad.add (k * 6)).off + 1, none⟩ = some (.int .i64 a.num) ∧
    w.cell? ⟨(ad.add (k * 6)).block, (ad.add (k * 6)).off + 2, none⟩ = some (.int .i64 a.i1) ∧ w.cell? ⟨(ad.add (k * 6)).block, (ad.add (k * 6)).off + 3, none⟩ = some (.int .i64 a.i2) ∧ w.cell? ⟨(ad.add (k * 6)).block, (ad.add (k * 6)).off + 4, none⟩ = some (.slice A' n' c') ∧
    w.cell? ⟨(ad.add (k * 6)).block, (ad.add (k * 6)).off + 5, none⟩ = some (.bool a.learnt) ∧ IntSl w A' n' a.lits ∧ n' ≤ c' := by
  obtain ⟨ad, rfl, hc⟩ := h.2.2.2 (by omega)
  have hl : k < l.length := by have := h.1; omega
  have hr : l[k]? = some l[k] := List.getElem?_eq_getElem hl
  obtain ⟨A', n', c', r⟩ := hc k _ hr
  exact ⟨ad, _, A', n', c', rfl, Lib.hid hr, h.2.2.1 _ (List.getElem_mem hl), r⟩

def few12V (l : List ActA) : Bool := decide (l.length ≤ 80) && l.all fun a => decide (a.lits.length ≤ 60)
set_option maxHeartbeats 2000000 in
theorem few12_c (A : Option Addr) (n c : Nat) (l : List ActA) (w : World) (h : Acts12 w A n l) :
    Calls Try.prog 24 #[.slice A n c] w fun e w' => e = .returned (.bool (few12V l)) ∧ w = w' := by
  have hn := h.2.1
  have HL := Lib.hid h.1
  by_cases h80 : 80 < n
  · have HR : Hid (few12V l = false) := by unfold Hid few12V; rw [HL.out, decide_eq_false (by omega)]; rfl
    go_enter Try.func24, Try.ntmps24
    go_wp2
    go_ret
    exact ⟨ret_bool HR.out.symm, rfl⟩
  · have HR : Hid (few12V l = l.all fun a => decide (a.lits.length ≤ 60)) := by unfold Hid few12V; rw [HL.out, decide_eq_true (by omega)]; rfl
    go_enter Try.func24, Try.ntmps24
    go_wp2
    go_loop [3] (fun i => ∃ k : Nat, k ≤ n ∧ i = .int .i64 k ∧ ((l.take k).all fun a => decide (a.lits.length ≤ 60)) = true) (fun i => n - (intOf i).toNat)
    case atStart => exact ⟨0, Nat.zero_le _, rfl, rfl⟩
    case round =>
      obtain ⟨k, hk, rfl, hall⟩ := hrel
      have HALL := Lib.hid hall
      clear hall
      by_cases hlt : k < n
      · obtain ⟨ad, a, A', n', c', rfl, ha, _, _, _, _, _, d4, _, hl', _⟩ := h.at_ hlt
        have hl5 := hl'.1
        by_cases h60 : 60 < n'
        · have HF : Hid (few12V l = false) := by
            unfold Hid
            rw [HR.out]
            cases e : l.all fun a => decide (a.lits.length ≤ 60) with
            | false => rfl
            | true =>
              rw [List.all_eq_true] at e
              have := e a (List.mem_of_getElem? ha.out)
              simp at this; omega
          clear hl5
          go_wp2
          go_ret
          exact ⟨ret_bool HF.out.symm, rfl⟩
        · have HS : Hid (((l.take (k + 1)).all fun a => decide (a.lits.length ≤ 60)) = true) := by
            unfold Hid
            rw [take_succ_of ha.out, List.all_append, HALL.out]
            simp; omega
          clear hl5
          go_wp2
          go_round
          case rel => exact ⟨k + 1, by omega, by go_num, HS.out⟩
          case measure => simp [intOf]; omega
      · have HT : Hid (few12V l = true) := by
          unfold Hid
          rw [HR.out]
          have := HALL.out
          rwa [List.take_of_length_le (by have := HL.out; omega)] at this
        go_wp2
        go_ret
        exact ⟨ret_bool HT.out.symm, rfl⟩

def doS12 (S : ASt) (a : ActA) : ASt := if a.kind = 0 then putS S a.num a.lits a.learnt else if a.kind = 1 then swapS S a.num a.i1 a.i2 else if a.kind = 2 then dropS S a.num else if a.kind = 3 then compS S else S
def doP12 (S : ASt) (a : ActA) : Int := if a.kind = 0 then putAt S a.num a.lits else 0
def doE12 (S : ASt) (a : ActA) : Int := if a.kind = 0 then putE a.num a.lits else if a.kind = 1 then swapE S a.num a.i1 a.i2 else if a.kind = 2 then dropE S a.num else 0
def doL12 (S : ASt) (a : ActA) : List Int := if a.kind = 3 then allA S.rows else []
theorem ArNext.before {w W w' : World} {base p mb K : Nat} {lv : Value} {S : ASt} (hx : Ext w W) (h : ArNext W w' base p mb lv K S) : ArNext w w' base p mb lv K S := by
  obtain ⟨a, b, h1, h2, h3⟩ := h
  exact ⟨a, b, h1, Stay.ext_trans hx h2, fun k hk => by rcases h3 k hk with e | e; exact Or.inl e; exact Or.inr (by have := hx.size_le; omega)⟩
def RetDo12 (S : ASt) (a : ActA) (base p mb : Nat) (lv : Value) (K : Nat) (w : World) (e : Ending) (w' : World) : Prop :=
  ∃ v, e = .returned (.tuple #[.int .i64 (doP12 S a), .int .i64 (doE12 S a), v]) ∧ OwnI w' w.heap.size v (doL12 S a) ∧ ArNext w w' base p mb lv (K + 1) (doS12 S a)

set_option maxHeartbeats 4000000 in
theorem do12_c (w : World) (base p mb : Nat) (lv : Value) (K : Nat) (S : ASt) (a : ActA) (A : Option Addr) (n c : Nat) (h : ArMem w base p mb lv K S) (hok : okB a) (hl : IntSl w A n a.lits) (ho : 0 < n → Out (ArF p mb lv) A) (hK : K + 1 ≤ 1000000) :
    Calls Try.prog 26 #[.pointer (some ⟨p, 0, none⟩), .agg #[.int .i64 a.kind, .int .i64 a.num, .int .i64 a.i1, .int .i64 a.i2, .slice A n c, .bool a.learnt]] w (RetDo12 S a base p mb lv K w) := by
  obtain ⟨kind, num, i1, i2, lits, learnt⟩ := a
  dsimp only at hl ⊢
  have hnum : -9223372036854775808 ≤ num ∧ num ≤ 9223372036854775807 := hok.2.1
  have hX := (Ext.refl w).alloc (Obj.cells #[.int .i64 kind, .int .i64 num, .int .i64 i1, .int .i64 i2, .slice A n c, .bool learnt] 62)
  have HM := Lib.hid (h.ext hX)
  have HX := Lib.hid hX
  have HL := Lib.hid (hl.ext hX)
  clear h hX hl hok
  by_cases k0 : kind = 0
  · subst k0
    go_enter Try.func26, Try.ntmps26
    go_wp2_with fail
    refine (arPut_c _ base p mb lv K S num _ _ _ lits learnt HM.out HL.out ho hK).mono ?_
    rintro e w1 ⟨rfl, hn1⟩
    go_wp2
    go_ret3
    exact ⟨.slice none 0 0, by simp [doP12, doE12], by simp [doL12]; exact OwnI.nil _ _, by simp only [doS12, if_true]; exact ArNext.before HX.out hn1⟩
  · have kb0 : (kind == 0) = false := by simpa using k0
    have K0 := Lib.hid k0
    clear k0
    by_cases k1 : kind = 1
    · subst k1
      go_enter Try.func26, Try.ntmps26
      go_wp2_with fail
      refine (arSwap_c _ base p mb lv K S num i1 i2 HM.out hnum hK).mono ?_
      rintro e w1 ⟨rfl, hn1⟩
      go_wp2
      go_ret3
      exact ⟨.slice none 0 0, by simp [doP12, doE12], by simp [doL12]; exact OwnI.nil _ _, by simp [doS12]; exact ArNext.before HX.out hn1⟩
    · have kb1 : (kind == 1) = false := by simpa using k1
      have K1 := Lib.hid k1
      clear k1
      by_cases k2 : kind = 2
      · subst k2
        go_enter Try.func26, Try.ntmps26
        go_wp2_with fail
        refine (arDrop_c _ base p mb lv K S num HM.out hnum hK).mono ?_
        rintro e w1 ⟨rfl, hn1⟩
        go_wp2
        go_ret3
        exact ⟨.slice none 0 0, by simp [doP12, doE12], by simp [doL12]; exact OwnI.nil _ _, by simp [doS12]; exact ArNext.before HX.out hn1⟩
      · have kb2 : (kind == 2) = false := by simpa using k2
        have K2 := Lib.hid k2
        clear k2
        by_cases k3 : kind = 3
        · subst k3
          go_enter Try.func26, Try.ntmps26
          go_wp2_with fail
          refine (arCompact_c _ base p mb lv K S HM.out hK).mono ?_
          rintro e w1 ⟨v, rfl, hov, hn1⟩
          have HOV := Lib.hid hov
          clear hov
          go_wp2
          go_ret3
          exact ⟨v, by simp [doP12, doE12], by simp [doL12]; exact OwnI.less HOV.out (by simp), by simp [doS12]; exact ArNext.before HX.out hn1.next⟩
        · have kb3 : (kind == 3) = false := by simpa using k3
          have K3 := Lib.hid k3
          clear k3
          go_enter Try.func26, Try.ntmps26
          go_wp2
          go_ret3
          refine ⟨.slice none 0 0, by simp [doP12, doE12, K0.out, K1.out, K2.out], by simp [doL12, K3.out]; exact OwnI.nil _ _, ?_⟩
          simp only [doS12, if_neg K0.out, if_neg K1.out, if_neg K2.out, if_neg K3.out]
          exact ArNext.before HX.out (ArNext.refl HM.out (Ext.refl _) hK)
end Go.Proofs.Ytbkimfefbdfkbaa
