/- Layer 3 (assign): a literal's value, by the list and by the map; the reference's. -/
import Derived.Test.YtdhohoabcokdjaaLit
import Derived.Test.YtdhohoabcokdjaaMap
set_option maxRecDepth 100000
namespace Go.Proofs.Ytdhohoabcokdjaa
open Go.RowKit Go.Maps

theorem varV_bd (l : Int) : 0 ≤ varV l ∧ varV l ≤ 100000 := by unfold varV; split <;> (try split) <;> omega
theorem varV_pos {l : Int} (h : varV l ≠ 0) : l ≠ 0 ∧ -100000 ≤ l ∧ l ≤ 100000 := by revert h; unfold varV; split <;> (try split) <;> omega
theorem varV_index (l : Int) : (0 ≤ indexV l) ↔ varV l ≠ 0 := by unfold indexV varV; (repeat (first | omega | split))

/-- Is a number in a list? -/
def hasV (xs : List Int) (x : Int) : Bool := xs.any (· == x)
theorem hasV_cnt (xs : List Int) (x : Int) : decide (0 < cntV xs x) = hasV xs x := by
  unfold cntV hasV
  rw [Bool.eq_iff_iff, decide_eq_true_eq, List.any_eq_true]
  constructor
  · intro h; exact ⟨x, List.count_pos_iff.1 (by omega), by simp⟩
  · rintro ⟨y, hy, he⟩
    obtain rfl : y = x := by simpa using he
    have := List.count_pos_iff.2 hy; omega

/-- The first place of a number, or -1. -/
def idxV (xs : List Int) (x : Int) : Int := match xs.findIdx? (· == x) with | some k => k | none => -1
theorem findIdx_snoc_none {α : Type} {p : α → Bool} {xs : List α} {y : α} {k : Nat} (h : (xs.take k).findIdx? p = none) (hy : xs[k]? = some y) (hne : p y = false) : (xs.take (k + 1)).findIdx? p = none := by
  rw [take_succ_of hy, List.findIdx?_append, h]
  simp [hne]
theorem findIdx_hit {α : Type} {p : α → Bool} {xs : List α} {y : α} {k : Nat} (h : (xs.take k).findIdx? p = none) (hy : xs[k]? = some y) (hp : p y = true) : xs.findIdx? p = some k := by
  have hk : k < xs.length := (List.getElem?_eq_some_iff.1 hy).1
  rw [List.findIdx?_eq_some_iff_getElem]
  refine ⟨hk, ?_, ?_⟩
  · have := (List.getElem?_eq_some_iff.1 hy).2; rw [this]; exact hp
  · intro j hj
    rw [List.findIdx?_eq_none_iff] at h
    have := h xs[j] (by rw [List.mem_take_iff_getElem]; exact ⟨j, by omega, rfl⟩)
    simpa using this

theorem idx_c (A : Option Addr) (n c : Nat) (xs : List Int) (x : Int) (w : World) (h : IntSl w A n xs) :
    Calls Try.prog 81 #[.slice A n c, .int .i64 x] w fun e w' => e = .returned (.int .i64 (idxV xs x)) ∧ w = w' := by
  have hn := h.len
  go_enter Try.func81, Try.ntmps81
  go_wp2
  go_loop [8] (fun i => ∃ k : Nat, k ≤ n ∧ i = .int .i64 k ∧ (xs.take k).findIdx? (· == x) = none) (fun i => n - (intOf i).toNat)
  case atStart => exact ⟨0, Nat.zero_le _, rfl, rfl⟩
  case round =>
    obtain ⟨k, hk, rfl, hno⟩ := hrel
    have HN := Lib.hid hno
    clear hno
    by_cases hlt : k < n
    · obtain ⟨ad, y, rfl, hy, hc, hx1, hx2⟩ := h.at_ hlt
      by_cases hxy : x = y
      · subst hxy
        go_wp2
        go_ret
        exact ⟨ret_int (by rw [idxV, findIdx_hit HN.out hy.out (by simp)]), rfl⟩
      · have hb : (x == y) = false := by simpa using hxy
        have HX := Lib.hid hxy
        clear hxy
        go_wp2
        go_round
        case rel => exact ⟨k + 1, by omega, by go_num, findIdx_snoc_none HN.out hy.out (by simpa using fun e => HX.out e.symm)⟩
        case measure => simp [intOf]; omega
    · go_wp2
      go_ret
      refine ⟨ret_int ?_, rfl⟩
      have := HN.out
      rw [take_len_of h.1 hlt] at this
      rw [idxV, this]

theorem hasV_idx (xs : List Int) (x : Int) : decide (0 ≤ idxV xs x) = hasV xs x := by
  unfold idxV hasV
  cases e : xs.findIdx? (· == x) with
  | none =>
    rw [List.findIdx?_eq_none_iff] at e
    have : xs.any (· == x) = false := by rw [List.any_eq_false]; intro y hy; simp [e y hy]
    simp [this]
  | some k =>
    rw [List.findIdx?_eq_some_iff_getElem] at e
    obtain ⟨hk, e, _⟩ := e
    have : xs.any (· == x) = true := by rw [List.any_eq_true]; exact ⟨_, List.getElem_mem hk, e⟩
    simp [this]

theorem contains_c (A : Option Addr) (n c : Nat) (xs : List Int) (x : Int) (w : World) (h : IntSl w A n xs) :
    Calls Try.prog 49 #[.slice A n c, .int .i64 x] w fun e w' => e = .returned (.bool (hasV xs x)) ∧ w = w' := by
  go_enter Try.func49, Try.ntmps49
  go_wp2_with (go_at_call 81; refine (idx_c _ _ _ xs _ _ h).mono ?_; rintro e w' ⟨rfl, rfl⟩)
  go_ret
  exact ⟨ret_bool (hasV_idx xs x), rfl⟩

theorem rHas_c (A : Option Addr) (n c : Nat) (xs : List Int) (x : Int) (w : World) (h : IntSl w A n xs) :
    Calls Try.prog 29 #[.slice A n c, .int .i64 x] w fun e w' => e = .returned (.bool (hasV xs x)) ∧ w = w' := by
  have hn := h.len
  go_enter Try.func29, Try.ntmps29
  go_wp2
  go_loop [5] (fun i => ∃ k : Nat, k ≤ n ∧ i = .int .i64 k ∧ hasV (xs.take k) x = false) (fun i => n - (intOf i).toNat)
  case atStart => exact ⟨0, Nat.zero_le _, rfl, rfl⟩
  case round =>
    obtain ⟨k, hk, rfl, hno⟩ := hrel
    have HN := Lib.hid hno
    clear hno
    by_cases hlt : k < n
    · obtain ⟨ad, y, rfl, hy, hc, hx1, hx2⟩ := h.at_ hlt
      by_cases hxy : y = x
      · subst hxy
        go_wp2
        go_ret
        refine ⟨ret_bool ?_, rfl⟩
        symm
        rw [hasV, List.any_eq_true]
        exact ⟨y, List.mem_iff_getElem?.2 ⟨k, hy.out⟩, by simp⟩
      · have hb : (y == x) = false := by simpa using hxy
        clear hxy
        go_wp2
        go_round
        case rel => exact ⟨k + 1, by omega, by go_num, by have := HN.out; simp only [hasV] at this ⊢; rw [take_succ_of hy.out, List.any_append, this]; simp [hb]⟩
        case measure => simp [intOf]; omega
    · go_wp2
      go_ret
      refine ⟨ret_bool ?_, rfl⟩
      have := HN.out
      rw [take_len_of h.1 hlt] at this
      exact this.symm

/-- A literal's value. -/
def valueV (xs : List Int) (x : Int) : Int := if varV x = 0 then 0 else if hasV xs x then 1 else if hasV xs (-x) then -1 else 0
theorem valueV_bd (xs : List Int) (x : Int) : -1 ≤ valueV xs x ∧ valueV xs x ≤ 1 := by unfold valueV; (repeat (first | omega | split))

theorem value_c (A : Option Addr) (n c : Nat) (xs : List Int) (x : Int) (w : World) (h : IntSl w A n xs) :
    Calls Try.prog 96 #[.slice A n c, .int .i64 x] w fun e w' => e = .returned (.int .i64 (valueV xs x)) ∧ w = w' := by
  by_cases hv : varV x = 0
  · have HV := Lib.hid hv
    have hb : (varV x == 0) = true := by simpa using hv
    clear hv
    go_enter Try.func96, Try.ntmps96
    go_wp2_with (go_at_call 67; refine (var_c _ _).mono ?_; rintro e w' ⟨rfl, rfl⟩)
    go_ret
    exact ⟨ret_int (by rw [valueV, if_pos HV.out]), rfl⟩
  · obtain ⟨_, hx1, hx2⟩ := varV_pos hv
    have HV := Lib.hid hv
    have hb : (varV x == 0) = false := by simpa using hv
    clear hv
    go_enter Try.func96, Try.ntmps96
    go_wp2_with (first
      | (go_at_call 67; refine (var_c _ _).mono ?_; rintro e w' ⟨rfl, rfl⟩)
      | (go_at_call 49; refine (contains_c _ _ _ xs _ _ h).mono ?_; rintro e w' ⟨rfl, rfl⟩))
    all_goals
      go_ret
      exact ⟨ret_int (by rw [valueV, if_neg HV.out]; simp [*]), rfl⟩

theorem rValue_c (A : Option Addr) (n c : Nat) (xs : List Int) (x : Int) (w : World) (h : IntSl w A n xs) :
    Calls Try.prog 90 #[.slice A n c, .int .i64 x] w fun e w' => e = .returned (.int .i64 (valueV xs x)) ∧ w = w' := by
  have hvi := varV_index x
  by_cases hv : varV x = 0
  · have HV := Lib.hid hv
    have hb : indexV x < 0 := by omega
    clear hv hvi
    go_enter Try.func90, Try.ntmps90
    go_wp2_with (go_at_call 28; refine (rIndex_c _ _).mono ?_; rintro e w' ⟨rfl, rfl⟩)
    go_ret
    exact ⟨ret_int (by rw [valueV, if_pos HV.out]), rfl⟩
  · obtain ⟨_, hx1, hx2⟩ := varV_pos hv
    have HV := Lib.hid hv
    have hb : ¬ indexV x < 0 := by omega
    clear hv hvi
    go_enter Try.func90, Try.ntmps90
    go_wp2_with (first
      | (go_at_call 28; refine (rIndex_c _ _).mono ?_; rintro e w' ⟨rfl, rfl⟩)
      | (go_at_call 29; refine (rHas_c _ _ _ xs _ _ h).mono ?_; rintro e w' ⟨rfl, rfl⟩))
    all_goals
      go_ret
      exact ⟨ret_int (by rw [valueV, if_neg HV.out]; simp [*]), rfl⟩

/-! ### by the map -/
theorem valuer1_c (b k : Nat) (xs : List Int) (x : Int) (p : Addr) (w : World) (hp : w.cell? p = some (.map (some b))) (hc : Cnt w b k (cntV xs)) (hx : varV x ≠ 0) :
    Calls Try.prog 104 #[.int .i64 x, .pointer (some p)] w fun e w' => e = .returned (.int .i64 (valueV xs x)) ∧ w = w' := by
  obtain ⟨_, hx1, hx2⟩ := varV_pos hx
  have HV := Lib.hid hx
  have HC := Lib.hid hc
  have h1 := hasV_cnt xs x
  have h2 := hasV_cnt xs (-x)
  have H1 := Lib.hid h1
  have H2 := Lib.hid h2
  clear hx hc h1 h2
  go_enter Try.func104, Try.ntmps104
  go_wp2_with (at_lookup; refine wpList_look _ rfl _ _ rfl _ _ _ rfl HC.out _ rfl (by omega) ?_)
  all_goals
    go_ret
    refine ⟨ret_int ?_, rfl⟩
    rw [valueV, if_neg HV.out, ← H1.out, ← H2.out]
    simp only [decide_eq_true_eq]
    (repeat (first | omega | split))

/-- What valuer hands back. -/
def RetValuer (xs : List Int) (w : World) (e : Ending) (w' : World) : Prop :=
  ∃ p b, e = .returned (.func (.func 104) #[] #[.pointer (some p)]) ∧ w'.cell? p = some (.map (some b)) ∧ Cnt w' b xs.length (cntV xs) ∧ Ext w w'

set_option maxHeartbeats 1000000 in
theorem valuer_c (A : Option Addr) (n c : Nat) (xs : List Int) (w : World) (h : IntSl w A n xs) (hsm : n ≤ 1000000000000) :
    Calls Try.prog 87 #[.slice A n c] w (RetValuer xs w) := by
  have hmm := fun (n : Int) (W : World) => run_makeMap_hint (P := Try.prog) 85 3 3 .i64 n Try.underlying85 W
  go_enter Try.func87, Try.ntmps87
  go_wp2
  go_loopw [11] (fun i wr => ∃ k : Nat, k ≤ n ∧ i = .int .i64 k ∧ Cnt wr w.heap.size k (cntV (xs.take k)) ∧ Blk wr (w.heap.size + 1) 85 #[.map (some w.heap.size)] ∧ Ext w wr) (fun i _ => n - (intOf i).toNat)
  case atStart =>
    refine ⟨0, Nat.zero_le _, rfl, ?_, ?_, ((Ext.refl _).alloc _).alloc _⟩
    · rw [List.take_zero, cntV_nil]; exact (Cnt.made w).ext ((Ext.refl _).alloc _)
    · have := Blk.new (w.alloc (.map #[] 0)) 85 #[Value.map (some w.heap.size)]
      rw [World.size_alloc] at this
      exact this
  case round =>
    obtain ⟨k, hk, rfl, hc, hb, hx⟩ := hrel
    have HC := Lib.hid hc
    have HB := Lib.hid hb
    have HX := Lib.hid hx
    have cb := hb.cell 0
    clear hc hb hx
    by_cases hlt : k < n
    · obtain ⟨ad, x, rfl, hx, hcx, hx1, hx2⟩ := (h.ext HX.out).at_ hlt
      have hbd := cntV_bd (xs.take k) x
      have hbl : (xs.take k).length ≤ k := List.length_take_le _ _
      have hb1 := hbd.1
      have hb2 : cntV (xs.take k) x ≤ 1000000000000 := by omega
      clear hbd hbl
      go_wp2_with (first
        | (at_lookup; refine wpList_look _ rfl _ _ rfl _ _ _ rfl HC.out _ rfl ⟨hx1, hx2⟩ ?_)
        | (at_mapUpdate; refine wpList_setm _ rfl _ _ _ rfl _ _ _ rfl HC.out (by omega) _ _ rfl rfl ⟨hx1, hx2⟩ (by omega) ?_; intro w2 hc2 hg2; have HC2 := Lib.hid hc2; have HG2 := Lib.hid hg2; clear hc2 hg2))
      go_roundw
      case rel =>
        refine ⟨k + 1, by omega, by go_num, ?_, HB.out.keep (HG2.out.block _ HB.out.lt (by simp)), HX.out.grown HG2.out (fun j hj => by cases hj; exact Nat.le_refl _)⟩
        rw [take_succ_of hx.out, ← cntV_snoc]
        exact HC2.out
      case measure => simp [intOf]; omega
    · go_wp2
      go_ret
      refine ⟨_, _, rfl, cb, ?_, HX.out⟩
      have := HC.out
      rw [take_len_of h.1 hlt] at this
      exact this.mono (by have := h.1; omega)
end Go.Proofs.Ytdhohoabcokdjaa
