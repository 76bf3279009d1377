/- Layer 7 (units): the reference's Propagate. -/
import Derived.Test.YtdhohoabcokdjaaUnits4
set_option maxRecDepth 100000
namespace Go.Proofs.Ytdhohoabcokdjaa
open Go.RowKit Go.Maps

theorem mostN_snoc (L : List (List Int)) (c : List Int) : mostN (L ++ [c]) = mostN L + c.length := by simp [mostN]
theorem mostN_take (L : List (List Int)) (k : Nat) : mostN (L.take k) ≤ mostN L := by
  have : mostN (L.take k ++ L.drop k) = mostN (L.take k) + mostN (L.drop k) := by unfold mostN; rw [List.map_append, List.sum_append]
  rw [List.take_append_drop] at this
  omega

set_option maxHeartbeats 4000000 in
theorem rProp_c (A : Option Addr) (n c : Nat) (L : List (List Int)) (A' : Option Addr) (n' c' : Nat) (l : List Int) (w : World) (h : RowsSl w A n L) (h' : IntSl w A' n' l) (hsm : n' ≤ 1000000000) (hM : mostN L ≤ 1000000000) :
    Calls Try.prog 60 #[.slice A n c, .slice A' n' c'] w (RetProp L l w) := by
  have hn := h.len
  have HLL := Lib.hid h'.1
  have HMO := Lib.hid (openN_most L l)
  have hbl := h'.2.2.1
  have HBL := Lib.hid hbl
  clear hbl
  go_enter Try.func60, Try.ntmps60
  go_wp2_with (at_builtin; refine appendS _ rfl (.tmp 16) (.tmp 17) rfl w.heap.size _ [] rfl (own_empty w) _ _ _ l rfl (h'.ext ((Ext.refl _).alloc _)) (by simp; omega) (by simp) ?_; intro v5 w5 ho5 hg5 hloc; clear hloc; have HO5 := Lib.hid ho5; have HX5 : Hid (Ext w w5) := Ext.grown ((Ext.refl _).alloc _) hg5 (fun j hj => by have := (own_empty w).blk j hj; omega); clear ho5 hg5)
  go_loop [9, 10] (fun m i => ∃ k y : Nat, k ≤ n ∧ i = .int .i64 k ∧ m = .int .i64 y ∧ y = mostN (L.take k)) (fun _ i => n - (intOf i).toNat)
  case atStart => exact ⟨0, 0, Nat.zero_le _, rfl, rfl, rfl⟩
  case round =>
    obtain ⟨k, y, hk, rfl, rfl, hy⟩ := hrel
    have hyb := mostN_take L k
    have hyM : y ≤ 1000000000 := by omega
    have HY := Lib.hid hy
    clear hy hyb
    by_cases hlt : k < n
    · obtain ⟨ad, xs, A1, n1, c1, rfl, hy1, hcx, hrow⟩ := (h.ext HX5.out).at_ hlt
      have HT := Lib.hid (take_succ_of hy1.out)
      have hsum : y + n1 = mostN (L.take (k + 1)) := by rw [HT.out, mostN_snoc, ← HY.out, hrow.1]
      have hn1 : y + n1 ≤ 1000000000 := by have := mostN_take L (k + 1); omega
      have HSUM := Lib.hid hsum
      clear hsum
      go_wp2
      go_round
      case rel => exact ⟨k + 1, y + n1, by omega, by go_num, by go_num, HSUM.out⟩
      case measure => simp [intOf]; omega
    · have hyy := HY.out
      rw [take_len_of h.1 hlt] at hyy
      have HYY := Lib.hid hyy
      clear hyy
      go_wp2
      go_loopw [7, 8, 11] (fun o u i wr => ∃ (lc bc : List Int) (q : Nat), i = .int .i64 q ∧ propV L (mostN L + 1) l [] = propV L (mostN L + 1) lc bc ∧ openN L lc + q ≤ mostN L ∧ lc.length = l.length + q ∧ bc.length = q ∧ (∀ x ∈ lc, -9223372036854775808 ≤ x ∧ x ≤ 9223372036854775807) ∧ OwnI wr w.heap.size o lc ∧ OwnI wr w.heap.size u bc ∧ Apart o u ∧ Ext w wr) (fun _ _ i _ => mostN L + 1 - (intOf i).toNat)
      case atStart => exact ⟨l, [], 0, rfl, rfl, by have := HMO.out; omega, rfl, rfl, HBL.out, by simpa using HO5.out, OwnI.nil _ _, Or.inr (Or.inl rfl), HX5.out⟩
      case round =>
        obtain ⟨lc, bc, q, rfl, hp, hop, hlc, hbc, hbd, ho, hu, hd, hx⟩ := hrel
        have hpos := openN_pos L lc
        have hqM : q ≤ y := by have := HYY.out; omega
        have hqM2 : q ≤ mostN L := by omega
        have HQ := Lib.hid hqM2
        clear hqM2
        have hlc2 : lc.length ≤ 3000000000 := by have := HLL.out; omega
        have hbc2 : bc.length ≤ 3000000000 := by omega
        obtain ⟨Ao, no, co, rfl, hso⟩ := ho.sl (by omega) hbd
        have HP := Lib.hid hp
        have HOP := Lib.hid hop
        have HLC := Lib.hid hlc
        have HBC := Lib.hid hbc
        have HBD := Lib.hid hbd
        have HO := Lib.hid ho
        have HU := Lib.hid hu
        have HD := Lib.hid hd
        have HXR := Lib.hid hx
        have HSO := Lib.hid hso
        clear hp hop hlc hbc hbd ho hu hd hx hso hpos
        go_wp2_with fail
        refine (rFails_c _ _ _ L _ _ _ lc _ (h.ext HXR.out) HSO.out).mono ?_
        rintro e w' ⟨rfl, rfl⟩
        by_cases hf : 0 ≤ failsV lc L
        · have HR := Lib.hid (prop_fail (b := bc) hf)
          go_wp2
          go_ret3
          refine ⟨_, _, _, rfl, ?_, ?_, ?_, HXR.out⟩
          · rw [HP.out, HR.out]; exact HO.out
          · rw [HP.out, HR.out]; exact HU.out
          · rw [HP.out, HR.out]
        · go_wp2_with fail
          refine (rNext_c _ _ _ L _ _ _ lc _ (h.ext HXR.out) HSO.out).mono ?_
          rintro e w6 ⟨s, un, t, rfl, hs, hun, ht, hx6⟩
          have HX6 := Lib.hid hx6
          clear hx6
          by_cases hu0 : nextU lc L < 0
          · have HR := Lib.hid (prop_stop (l := lc) (L := L) (b := bc) (by omega) hu0)
            have ht' : t = false := by rw [ht]; exact decide_eq_false (by omega)
            clear hs hun ht
            subst ht'
            go_wp2
            go_ret3
            refine ⟨_, _, _, rfl, ?_, ?_, ?_, HXR.out.trans HX6.out⟩
            · rw [HP.out, HR.out]; exact HO.out.ext HX6.out
            · rw [HP.out, HR.out]; exact HU.out.ext HX6.out
            · rw [HP.out, HR.out]
          · have HR := Lib.hid (prop_step (l := lc) (L := L) (b := bc) (by omega) (by omega))
            have HOS := Lib.hid (open_step (l := lc) (L := L) (by omega))
            have hbd := next_bd (l := lc) (L := L) (by omega)
            have hub := (idxP_bd (unitB lc) L).2
            have hub' : nextU lc L < (n : Int) := by have := h.1; rw [← this]; exact hub
            have hun' : un = nextU lc L := by rw [hun, if_pos (by omega)]
            have ht' : t = true := by rw [ht]; exact decide_eq_true (by omega)
            rw [← hs] at hbd
            rw [← hun'] at hub'
            have hun0 : 0 ≤ un := by rw [hun']; omega
            obtain ⟨hbd1, hbd2⟩ := hbd
            have HUN := Lib.hid hun'
            have HS := Lib.hid hs
            have HO6a := Lib.hid (HO.out.ext HX6.out)
            have HU6a := Lib.hid (HU.out.ext HX6.out)
            have hsz6 := (HXR.out.trans HX6.out).size_le
            clear hs hun ht hub hun' hf hu0
            subst ht'
            go_wp2_with (first
              | (at_builtin; refine append1 _ rfl (.tmp 56) (.tmp 58) rfl w.heap.size _ _ rfl (HO6a.out.alloc _) _ _ _ rfl (cell_one _ _ _) (by omega) (by omega) (by simp; omega) ?_; intro v7 w7 ho7 hg7 hloc; have HO7 := Lib.hid ho7; have HG7 := Lib.hid hg7; have hsz7 : w.heap.size ≤ w7.heap.size := (by have := hg7.size; simp at this; omega); have HU7 := Lib.hid ((HU6a.out.alloc _).kept hg7 HD.out.symm.kept); have HD7 := Lib.hid (HD.out.grow hloc (fun k e => by have := HU6a.out.blk k e; simp; omega)); clear ho7 hg7 hloc)
              | (at_builtin; refine append1 _ rfl (.tmp 60) (.tmp 62) rfl w.heap.size _ _ rfl (HU7.out.alloc _) _ _ _ rfl (cell_one _ _ _) (by omega) (by omega) (by simp; omega) ?_; intro v8 w8 ho8 hg8 hloc; have HU8 := Lib.hid ho8; have HG8 := Lib.hid hg8; have HO8 := Lib.hid ((HO7.out.alloc _).kept hg8 HD7.out.kept); have HD8 := Lib.hid (HD7.out.symm.grow hloc (fun k e => by have := HO7.out.blk k e; simp; omega)); clear ho8 hg8 hloc))
            go_roundw
            case measure => have := HQ.out; simp [intOf]; omega
            case rel =>
              have hx7 := ((HXR.out.trans HX6.out).alloc (Obj.cells #[.int .i64 s] 3)).grown HG7.out (fun j hj => (HO.out.blk j hj).1)
              have hx8 := (hx7.alloc (Obj.cells #[.int .i64 un] 3)).grown HG8.out (fun j hj => (HU.out.blk j hj).1)
              refine ⟨lc ++ [s], bc ++ [un], q + 1, by go_num, ?_, ?_, ?_, ?_, ?_, HO8.out, HU8.out, HD8.out.symm, hx8⟩
              · rw [HP.out, HR.out, ← HUN.out, ← HS.out]
              · have e1 := HOP.out
                have e2 := HOS.out
                rw [← HS.out] at e2
                omega
              · have := HLC.out; simp; omega
              · have := HBC.out; simp; omega
              · intro x hx
                rcases List.mem_append.1 hx with hx | hx
                · exact HBD.out x hx
                · rw [List.mem_singleton.1 hx]; omega
end Go.Proofs.Ytdhohoabcokdjaa
