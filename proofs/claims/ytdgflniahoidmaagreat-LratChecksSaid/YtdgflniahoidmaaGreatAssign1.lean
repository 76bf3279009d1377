/- Layer 3 (assign): a literal's value, by the list and by the map; the reference's. -/
import Derived.Test.YtdgflniahoidmaaGreatLit
import Derived.Test.YtdgflniahoidmaaGreatMap
import Derived.Laws.EntriesVeiled
set_option maxRecDepth 100000
namespace Go.Proofs.YtdgflniahoidmaaGreat
open Go.RowKit Go.Maps

theorem varV_bd (l : Int) : 0 ≤ varV l ∧ varV l ≤ 100000 := by unfold varV; split <;> (try split) <;> omega
theorem varV_pos {l : Int} (h : varV l ≠ 0) : l ≠ 0 ∧ -100000 ≤ l ∧ l ≤ 100000 := by revert h; unfold varV; split <;> (try split) <;> omega
theorem varV_index (l : Int) : (0 ≤ indexV l) ↔ varV l ≠ 0 := by unfold indexV varV; (repeat (first | omega | split))

/-- Is a number in a list? -/
def hasV (xs : List Int) (x : Int) : Bool := xs.any (· == x)
theorem hasV_cnt (xs : List Int) (x : Int) : decide (0 < cntV xs x) = hasV xs x := by
  unfold cntV hasV
  rw [Bool.eq_iff_iff, decide_eq_true_eq, List.any_eq_true]
  constructor
  · intro h; exact ⟨x, List.count_pos_iff.1 (by omega), by simp⟩
  · rintro ⟨y, hy, he⟩
    obtain rfl : y = x := by simpa using he
    have := List.count_pos_iff.2 hy; omega

/-- The first place of a number, or -1. -/
def idxV (xs : List Int) (x : Int) : Int := match xs.findIdx? (· == x) with | some k => k | none => -1
theorem findIdx_snoc_none {α : Type} {p : α → Bool} {xs : List α} {y : α} {k : Nat} (h : (xs.take k).findIdx? p = none) (hy : xs[k]? = some y) (hne : p y = false) : (xs.take (k + 1)).findIdx? p = none := by
  rw [take_succ_of hy, List.findIdx?_append, h]
  simp [hne]
theorem findIdx_hit {α : Type} {p : α → Bool} {xs : List α} {y : α} {k : Nat} (h : (xs.take k).findIdx? p = none) (hy : xs[k]? = some y) (hp : p y = true) : xs.findIdx? p = some k := by
  have hk : k < xs.length := (List.getElem?_eq_some_iff.1 hy).1
  rw [List.findIdx?_eq_some_iff_getElem]
  refine ⟨hk, ?_, ?_⟩
  · have := (List.getElem?_eq_some_iff.1 hy).2; rw [this]; exact hp
  · intro j hj
    rw [List.findIdx?_eq_none_iff] at h
    have := h xs[j] (by rw [List.mem_take_iff_getElem]; exact ⟨j, by omega, rfl⟩)
    simpa using this

theorem idx_c (A : Option Addr) (n c : Nat) (xs : List Int) (x : Int) (w : World) (h : IntSl w A n xs) :
    Calls Tryz.prog 121 #[.slice A n c, .int .i64 x] w fun e w' => e = .returned (.int .i64 (idxV xs x)) ∧ w = w' := by
  have hn := h.len
  go_enter Tryz.func121, Tryz.ntmps121
  go_wp2
  go_loop [8] (fun i => ∃ k : Nat, k ≤ n ∧ i = .int .i64 k ∧ (xs.take k).findIdx? (· == x) = none) (fun i => n - (intOf i).toNat)
  case atStart => exact ⟨0, Nat.zero_le _, rfl, rfl⟩
  case round =>
    obtain ⟨k, hk, rfl, hno⟩ := hrel
    have HN := Lib.hid hno
    clear hno
    by_cases hlt : k < n
    · obtain ⟨ad, y, rfl, hy, hc, hx1, hx2⟩ := h.at_ hlt
      by_cases hxy : x = y
      · subst hxy
        go_wp2
        go_ret
        exact ⟨ret_int (by rw [idxV, findIdx_hit HN.out hy.out (by simp)]), rfl⟩
      · have hb : (x == y) = false := by simpa using hxy
        have HX := Lib.hid hxy
        clear hxy
        go_wp2
        go_round
        case rel => exact ⟨k + 1, by omega, by go_num, findIdx_snoc_none HN.out hy.out (by simpa using fun e => HX.out e.symm)⟩
        case measure => simp [intOf]; omega
    · go_wp2
      go_ret
      refine ⟨ret_int ?_, rfl⟩
      have := HN.out
      rw [take_len_of h.1 hlt] at this
      rw [idxV, this]

theorem hasV_idx (xs : List Int) (x : Int) : decide (0 ≤ idxV xs x) = hasV xs x := by
  unfold idxV hasV
  cases e : xs.findIdx? (· == x) with
  | none =>
    rw [List.findIdx?_eq_none_iff] at e
    have : xs.any (· == x) = false := by rw [List.any_eq_false]; intro y hy; simp [e y hy]
    simp [this]
  | some k =>
    rw [List.findIdx?_eq_some_iff_getElem] at e
    obtain ⟨hk, e, _⟩ := e
    have : xs.any (· == x) = true := by rw [List.any_eq_true]; exact ⟨_, List.getElem_mem hk, e⟩
    simp [this]

theorem contains_c (A : Option Addr) (n c : Nat) (xs : List Int) (x : Int) (w : World) (h : IntSl w A n xs) :
    Calls Tryz.prog 109 #[.slice A n c, .int .i64 x] w fun e w' => e = .returned (.bool (hasV xs x)) ∧ w = w' := by
  go_enter Tryz.func109, Tryz.ntmps109
  go_wp2_with (go_at_call 121; refine (idx_c _ _ _ xs _ _ h).mono ?_; rintro e w' ⟨rfl, rfl⟩)
  go_ret
  exact ⟨ret_bool (hasV_idx xs x), rfl⟩

theorem rHas_c (A : Option Addr) (n c : Nat) (xs : List Int) (x : Int) (w : World) (h : IntSl w A n xs) :
    Calls Tryz.prog 63 #[.slice A n c, .int .i64 x] w fun e w' => e = .returned (.bool (hasV xs x)) ∧ w = w' := by
  have hn := h.len
  go_enter Tryz.func63, Tryz.ntmps63
  go_wp2
  go_loop [5] (fun i => ∃ k : Nat, k ≤ n ∧ i = .int .i64 k ∧ hasV (xs.take k) x = false) (fun i => n - (intOf i).toNat)
  case atStart => exact ⟨0, Nat.zero_le _, rfl, rfl⟩
  case round =>
    obtain ⟨k, hk, rfl, hno⟩ := hrel
    have HN := Lib.hid hno
    clear hno
    by_cases hlt : k < n
    · obtain ⟨ad, y, rfl, hy, hc, hx1, hx2⟩ := h.at_ hlt
      by_cases hxy : y = x
      · subst hxy
        go_wp2
        go_ret
        refine ⟨ret_bool ?_, rfl⟩
        symm
        rw [hasV, List.any_eq_true]
        exact ⟨y, List.mem_iff_getElem?.2 ⟨k, hy.out⟩, by simp⟩
      · have hb : (y == x) = false := by simpa using hxy
        clear hxy
        go_wp2
        go_round
        case rel => exact ⟨k + 1, by omega, by go_num, by have := HN.out; simp only [hasV] at this ⊢; rw [take_succ_of hy.out, List.any_append, this]; simp [hb]⟩
        case measure => simp [intOf]; omega
    · go_wp2
      go_ret
      refine ⟨ret_bool ?_, rfl⟩
      have := HN.out
      rw [take_len_of h.1 hlt] at this
      exact this.symm

/-- A literal's value. -/
def valueV (xs : List Int) (x : Int) : Int := if varV x = 0 then 0 else if hasV xs x then 1 else if hasV xs (-x) then -1 else 0
theorem valueV_bd (xs : List Int) (x : Int) : -1 ≤ valueV xs x ∧ valueV xs x ≤ 1 := by unfold valueV; (repeat (first | omega | split))

theorem value_c (A : Option Addr) (n c : Nat) (xs : List Int) (x : Int) (w : World) (h : IntSl w A n xs) :
    Calls Tryz.prog 112 #[.slice A n c, .int .i64 x] w fun e w' => e = .returned (.int .i64 (valueV xs x)) ∧ w = w' := by
  by_cases hv : varV x = 0
  · have HV := Lib.hid hv
    have hb : (varV x == 0) = true := by simpa using hv
    clear hv
    go_enter Tryz.func112, Tryz.ntmps112
    go_wp2_with (go_at_call 85; refine (var_c _ _).mono ?_; rintro e w' ⟨rfl, rfl⟩)
    go_ret
    exact ⟨ret_int (by rw [valueV, if_pos HV.out]), rfl⟩
  · obtain ⟨_, hx1, hx2⟩ := varV_pos hv
    have HV := Lib.hid hv
    have hb : (varV x == 0) = false := by simpa using hv
    clear hv
    go_enter Tryz.func112, Tryz.ntmps112
    go_wp2_with (first
      | (go_at_call 85; refine (var_c _ _).mono ?_; rintro e w' ⟨rfl, rfl⟩)
      | (go_at_call 109; refine (contains_c _ _ _ xs _ _ h).mono ?_; rintro e w' ⟨rfl, rfl⟩))
    all_goals
      go_ret
      exact ⟨ret_int (by rw [valueV, if_neg HV.out]; simp [*]), rfl⟩

theorem rValue_c (A : Option Addr) (n c : Nat) (xs : List Int) (x : Int) (w : World) (h : IntSl w A n xs) :
    Calls Tryz.prog 96 #[.slice A n c, .int .i64 x] w fun e w' => e = .returned (.int .i64 (valueV xs x)) ∧ w = w' := by
  have hvi := varV_index x
  by_cases hv : varV x = 0
  · have HV := Lib.hid hv
    have hb : indexV x < 0 := by omega
    clear hv hvi
    go_enter Tryz.func96, Tryz.ntmps96
    go_wp2_with (go_at_call 74; refine (rIndex_c _ _).mono ?_; rintro e w' ⟨rfl, rfl⟩)
    go_ret
    exact ⟨ret_int (by rw [valueV, if_pos HV.out]), rfl⟩
  · obtain ⟨_, hx1, hx2⟩ := varV_pos hv
    have HV := Lib.hid hv
    have hb : ¬ indexV x < 0 := by omega
    clear hv hvi
    go_enter Tryz.func96, Tryz.ntmps96
    go_wp2_with (first
      | (go_at_call 74; refine (rIndex_c _ _).mono ?_; rintro e w' ⟨rfl, rfl⟩)
      | (go_at_call 63; refine (rHas_c _ _ _ xs _ _ h).mono ?_; rintro e w' ⟨rfl, rfl⟩))
    all_goals
      go_ret
      exact ⟨ret_int (by rw [valueV, if_neg HV.out]; simp [*]), rfl⟩

/-! ### by the map -/
theorem valuer1_c (b k : Nat) (xs : List Int) (x : Int) (p : Addr) (w : World) (hp : w.cell? p = some (.map (some b))) (hc : Cnt w b k (cntV xs)) (hx : varV x ≠ 0) :
    Calls Tryz.prog 129 #[.int .i64 x, .pointer (some p)] w fun e w' => e = .returned (.int .i64 (valueV xs x)) ∧ w = w' := by
  obtain ⟨_, hx1, hx2⟩ := varV_pos hx
  have HV := Lib.hid hx
  have HC := Lib.hid hc
  have h1 := hasV_cnt xs x
  have h2 := hasV_cnt xs (-x)
  have H1 := Lib.hid h1
  have H2 := Lib.hid h2
  clear hx hc h1 h2
  go_enter Tryz.func129, Tryz.ntmps129
  go_wp2_with (at_lookup; refine wpList_look _ rfl _ _ rfl _ _ _ rfl HC.out _ rfl (by omega) ?_)
  all_goals
    go_ret
    refine ⟨ret_int ?_, rfl⟩
    rw [valueV, if_neg HV.out, ← H1.out, ← H2.out]
    simp only [decide_eq_true_eq]
    (repeat (first | omega | split))

/-- What valuer hands back. -/
def RetValuer (xs : List Int) (w : World) (e : Ending) (w' : World) : Prop :=
  ∃ p b, e = .returned (.func (.func 129) #[] #[.pointer (some p)]) ∧ w'.cell? p = some (.map (some b)) ∧ Cnt w' b xs.length (cntV xs) ∧ Ext w w'

set_option maxHeartbeats 1000000 in
theorem valuer_c (A : Option Addr) (n c : Nat) (xs : List Int) (w : World) (h : IntSl w A n xs) (hsm : n ≤ 1000000000000) :
    Calls Tryz.prog 127 #[.slice A n c] w (RetValuer xs w) := by
  have hmm := fun (n : Int) (W : World) => run_makeMap_hint (P := Tryz.prog) 94 3 3 .i64 n Tryz.underlying94 W
  go_enter Tryz.func127, Tryz.ntmps127
  go_wp2
  go_loopw [11] (fun i wr => ∃ k : Nat, k ≤ n ∧ i = .int .i64 k ∧ Cnt wr w.heap.size k (cntV (xs.take k)) ∧ Blk wr (w.heap.size + 1) 94 #[.map (some w.heap.size)] ∧ Ext w wr) (fun i _ => n - (intOf i).toNat)
  case atStart =>
    refine ⟨0, Nat.zero_le _, rfl, ?_, ?_, ((Ext.refl _).alloc _).alloc _⟩
    · rw [List.take_zero, cntV_nil]; exact (Cnt.made w).ext ((Ext.refl _).alloc _)
    · have := Blk.new (w.alloc (.map #[] 0)) 94 #[Value.map (some w.heap.size)]
      rw [World.size_alloc] at this
      exact this
  case round =>
    obtain ⟨k, hk, rfl, hc, hb, hx⟩ := hrel
    have HC := Lib.hid hc
    have HB := Lib.hid hb
    have HX := Lib.hid hx
    have cb := hb.cell 0
    clear hc hb hx
    by_cases hlt : k < n
    · obtain ⟨ad, x, rfl, hx, hcx, hx1, hx2⟩ := (h.ext HX.out).at_ hlt
      have hbd := cntV_bd (xs.take k) x
      have hbl : (xs.take k).length ≤ k := List.length_take_le _ _
      have hb1 := hbd.1
      have hb2 : cntV (xs.take k) x ≤ 1000000000000 := by omega
      clear hbd hbl
      go_wp2_with (first
        | (at_lookup; refine wpList_look _ rfl _ _ rfl _ _ _ rfl HC.out _ rfl ⟨hx1, hx2⟩ ?_)
        | (at_mapUpdate; refine wpList_setm _ rfl _ _ _ rfl _ _ _ rfl HC.out (by omega) _ _ rfl rfl ⟨hx1, hx2⟩ (by omega) ?_; intro w2 hc2 hg2; have HC2 := Lib.hid hc2; have HG2 := Lib.hid hg2; clear hc2 hg2))
      go_roundw
      case rel =>
        refine ⟨k + 1, by omega, by go_num, ?_, HB.out.keep (HG2.out.block _ HB.out.lt (by simp)), HX.out.grown HG2.out (fun j hj => by cases hj; exact Nat.le_refl _)⟩
        rw [take_succ_of hx.out, ← cntV_snoc]
        exact HC2.out
      case measure => simp [intOf]; omega
    · go_wp2
      go_ret
      refine ⟨_, _, rfl, cb, ?_, HX.out⟩
      have := HC.out
      rw [take_len_of h.1 hlt] at this
      exact this.mono (by have := h.1; omega)
end Go.Proofs.YtdgflniahoidmaaGreat

/- slices.IndexFunc over a closure that only computes. -/
namespace Go.Proofs.YtdgflniahoidmaaGreat
open Go.RowKit Go.Maps

/-- The first place where p holds, or -1. -/
def idxP {α : Type} (p : α → Bool) (xs : List α) : Int := match xs.findIdx? p with | some k => k | none => -1

/-- A call of F enters its body. -/
def Enters (F : Nat) : Prop := ∀ (args : Array Value) (w : World), Sem.run Tryz.prog (callFunc F args) w = .ok (.enter F args) w

theorem enters_unit : Enters 128 := by
  intro args w
  go_simp

theorem enters_taut : Enters 61 := by
  intro args w
  go_simp

theorem idxFunc_c (A : Option Addr) (n c : Nat) (xs : List Int) (p : Int → Bool) (F : Nat) (q : Value) (w : World) (h : IntSl w A n xs)
    (hF : Enters F)
    (hf : ∀ x, x ∈ xs → Calls Tryz.prog F #[.int .i64 x, q] w fun e w' => e = .returned (.bool (p x)) ∧ w = w') :
    Calls Tryz.prog 86 #[.slice A n c, .func (.func F) #[] #[q]] w fun e w' => e = .returned (.int .i64 (idxP p xs)) ∧ w = w' := by
  have hn := h.len
  go_enter Tryz.func86, Tryz.ntmps86
  go_wp2
  go_loop [8] (fun i => ∃ k : Nat, k ≤ n ∧ i = .int .i64 k ∧ (xs.take k).findIdx? p = none) (fun i => n - (intOf i).toNat)
  case atStart => exact ⟨0, Nat.zero_le _, rfl, rfl⟩
  case round =>
    obtain ⟨k, hk, rfl, hno⟩ := hrel
    have HN := Lib.hid hno
    clear hno
    by_cases hlt : k < n
    · obtain ⟨ad, y, rfl, hy, hc, hx1, hx2⟩ := h.at_ hlt
      cases hp : p y with
      | true =>
        have HPY := Lib.hid hp
        clear hp
        go_wp2_with fail
        rw [hF, Oper.upon_enter]
        refine (hf y (List.mem_of_getElem? hy.out)).mono ?_
        rintro e w' ⟨rfl, rfl⟩
        rw [HPY.out]
        go_wp2
        go_ret
        exact ⟨ret_int (by rw [idxP, findIdx_hit HN.out hy.out HPY.out]), rfl⟩
      | false =>
        have HPY := Lib.hid hp
        clear hp
        go_wp2_with fail
        rw [hF, Oper.upon_enter]
        refine (hf y (List.mem_of_getElem? hy.out)).mono ?_
        rintro e w' ⟨rfl, rfl⟩
        rw [HPY.out]
        go_wp2
        go_round
        case rel => exact ⟨k + 1, by omega, by go_num, findIdx_snoc_none HN.out hy.out HPY.out⟩
        case measure => simp [intOf]; omega
    · go_wp2
      go_ret
      refine ⟨ret_int ?_, rfl⟩
      have := HN.out
      rw [take_len_of h.1 hlt] at this
      rw [idxP, this]

theorem containsFunc_c (A : Option Addr) (n c : Nat) (xs : List Int) (p : Int → Bool) (F : Nat) (q : Value) (w : World) (h : IntSl w A n xs)
    (hF : Enters F)
    (hf : ∀ x, x ∈ xs → Calls Tryz.prog F #[.int .i64 x, q] w fun e w' => e = .returned (.bool (p x)) ∧ w = w') :
    Calls Tryz.prog 60 #[.slice A n c, .func (.func F) #[] #[q]] w fun e w' => e = .returned (.bool (xs.any p)) ∧ w = w' := by
  go_enter Tryz.func60, Tryz.ntmps60
  go_wp2_with (go_at_call 86; refine (idxFunc_c _ _ _ xs p _ _ _ h hF hf).mono ?_; rintro e w' ⟨rfl, rfl⟩)
  go_ret
  refine ⟨ret_bool ?_, rfl⟩
  unfold idxP
  cases e : xs.findIdx? p with
  | none =>
    rw [List.findIdx?_eq_none_iff] at e
    have : xs.any p = false := by rw [List.any_eq_false]; intro y hy; simp [e y hy]
    simp [this]
  | some k =>
    rw [List.findIdx?_eq_some_iff_getElem] at e
    obtain ⟨hk, e, _⟩ := e
    have : xs.any p = true := by rw [List.any_eq_true]; exact ⟨_, List.getElem_mem hk, e⟩
    simp [this]
end Go.Proofs.YtdgflniahoidmaaGreat

/- Layer 3 (assign): a clause's literals counted by their values. -/
namespace Go.Proofs.YtdgflniahoidmaaGreat
open Go.RowKit Go.Maps

/-- How many of c's literals have the value v in l. -/
def cnV (l c : List Int) (v : Int) : Int := (c.countP fun x => decide (varV x ≠ 0) && decide (valueV l x = v) : Nat)
theorem cnV_snoc (l c : List Int) (x v : Int) : cnV l (c ++ [x]) v = cnV l c v + if varV x ≠ 0 ∧ valueV l x = v then 1 else 0 := by
  unfold cnV
  rw [List.countP_append, List.countP_singleton]
  by_cases h : varV x ≠ 0 ∧ valueV l x = v
  · rw [if_pos h, if_pos (by simp [h.1, h.2])]; omega
  · rw [if_neg h, if_neg (by simpa using h)]; omega
theorem cnV_bd (l c : List Int) (v : Int) : 0 ≤ cnV l c v ∧ cnV l c v ≤ c.length := by
  unfold cnV; exact ⟨by omega, by have := List.countP_le_length (p := fun x => decide (varV x ≠ 0) && decide (valueV l x = v)) (l := c); omega⟩
theorem cnV_nil (l : List Int) (v : Int) : cnV l [] v = 0 := rfl

/-- A block of three numbers. -/
def B3 (w : World) (g : Nat) (a b c : Int) : Prop := Blk w g 149 #[.int .i64 a, .int .i64 b, .int .i64 c]

set_option maxHeartbeats 2000000 in
theorem count_c (A : Option Addr) (n c : Nat) (l : List Int) (A' : Option Addr) (n' c' : Nat) (cl : List Int) (w : World) (h : IntSl w A n l) (h' : IntSl w A' n' cl) (hsm : n ≤ 1000000000000) :
    Calls Tryz.prog 126 #[.slice A n c, .slice A' n' c'] w fun e w' => e = .returned (.agg #[.int .i64 (cnV l cl 1), .int .i64 (cnV l cl (-1)), .int .i64 (cnV l cl 0)]) ∧ Ext w w' := by
  have hn' := h'.len
  go_enter Tryz.func126, Tryz.ntmps126
  go_wp2_with fail
  refine (valuer_c _ _ _ _ _ (h.ext ((Ext.refl _).alloc _)) hsm).mono ?_
  rintro e w1 ⟨p, b, rfl, hp, hc, hx1⟩
  have HP := Lib.hid hp
  have HC := Lib.hid hc
  have HX1 := Lib.hid hx1
  clear hp hc hx1
  go_wp2_with fail
  go_loopw [13] (fun i wr => ∃ (k : Nat) (x y z : Int), k ≤ n' ∧ i = .int .i64 k ∧ x = cnV l (cl.take k) 1 ∧ y = cnV l (cl.take k) (-1) ∧ z = cnV l (cl.take k) 0 ∧ B3 wr w1.heap.size x y z ∧ Ext w1 wr) (fun i _ => n' - (intOf i).toNat)
  case atStart => exact ⟨0, 0, 0, 0, Nat.zero_le _, rfl, rfl, rfl, rfl, Blk.new _ _ _, (Ext.refl _).alloc _⟩
  case round =>
    obtain ⟨k, x1, x2, x3, hk, rfl, e1, e2, e3, hb, hx⟩ := hrel
    have hbd1 := cnV_bd l (cl.take k) 1
    have hbd2 := cnV_bd l (cl.take k) (-1)
    have hbd3 := cnV_bd l (cl.take k) 0
    have hbl : (cl.take k).length ≤ k := List.length_take_le _ _
    rw [← e1] at hbd1
    rw [← e2] at hbd2
    rw [← e3] at hbd3
    have E1 := Lib.hid e1
    have E2 := Lib.hid e2
    have E3 := Lib.hid e3
    have HB := Lib.hid hb
    have HX := Lib.hid hx
    have c0 := hb.cell 0
    have c1 := hb.cell 1
    have c2 := hb.cell 2
    have f0 := hb.frozen 0
    have f1 := hb.frozen 1
    have f2 := hb.frozen 2
    have b1 : 0 ≤ x1 ∧ x1 ≤ k := by omega
    have b2 : 0 ≤ x2 ∧ x2 ≤ k := by omega
    have b3 : 0 ≤ x3 ∧ x3 ≤ k := by omega
    obtain ⟨b1a, b1b⟩ := b1
    obtain ⟨b2a, b2b⟩ := b2
    obtain ⟨b3a, b3b⟩ := b3
    clear e1 e2 e3 hb hx hbd1 hbd2 hbd3 hbl
    by_cases hlt : k < n'
    · obtain ⟨ad, x, rfl, hx, hcx, hx1, hx2⟩ := (h'.ext (((Ext.refl _).alloc _).trans (HX1.out.trans HX.out))).at_ hlt
      have hT := take_succ_of hx.out
      have HT := Lib.hid hT
      clear hT
      have S1 := Lib.hid (cnV_snoc l (cl.take k) x 1)
      have S2 := Lib.hid (cnV_snoc l (cl.take k) x (-1))
      have S3 := Lib.hid (cnV_snoc l (cl.take k) x 0)
      by_cases hv : varV x = 0
      · have hvb : (varV x == 0) = true := by simpa using hv
        have HV := Lib.hid hv
        clear hv
        go_wp2_with (go_at_call 85; refine (var_c _ _).mono ?_; rintro e w' ⟨rfl, rfl⟩)
        go_roundw
        case rel => exact ⟨k + 1, x1, x2, x3, by omega, by go_num, by rw [HT.out, S1.out, if_neg (by simp [HV.out])]; simpa using E1.out, by rw [HT.out, S2.out, if_neg (by simp [HV.out])]; simpa using E2.out, by rw [HT.out, S3.out, if_neg (by simp [HV.out])]; simpa using E3.out, HB.out, HX.out⟩
        case measure => simp [intOf]; omega
      · have hvb : (varV x == 0) = false := by simpa using hv
        have HV := Lib.hid hv
        clear hv
        have hvb := valueV_bd l x
        rcases (show valueV l x = 1 ∨ valueV l x = -1 ∨ valueV l x = 0 by omega) with hval | hval | hval
        all_goals
          have HVAL := Lib.hid hval
          clear hval hvb
          go_wp2_with (first
            | (go_at_call 85; refine (var_c _ _).mono ?_; rintro e w' ⟨rfl, rfl⟩)
            | (go_at_call 129; refine (valuer1_c b _ l x p _ (HX.out.cell HP.out) (HC.out.ext HX.out) HV.out).mono ?_; rintro e w' ⟨rfl, rfl⟩; rw [HVAL.out]))
          go_roundw
          case measure => simp [intOf]; omega
        case rel => exact ⟨k + 1, x1 + 1, x2, x3, by omega, by go_num, by rw [HT.out, S1.out, if_pos ⟨HV.out, HVAL.out⟩, ← E1.out], by rw [HT.out, S2.out, if_neg (by simp [HVAL.out])]; simpa using E2.out, by rw [HT.out, S3.out, if_neg (by simp [HVAL.out])]; simpa using E3.out, HB.out.set_ 0 _, HX.out.setCell (Nat.le_refl _) _⟩
        case rel => exact ⟨k + 1, x1, x2 + 1, x3, by omega, by go_num, by rw [HT.out, S1.out, if_neg (by simp [HVAL.out])]; simpa using E1.out, by rw [HT.out, S2.out, if_pos ⟨HV.out, HVAL.out⟩, ← E2.out], by rw [HT.out, S3.out, if_neg (by simp [HVAL.out])]; simpa using E3.out, HB.out.set_ 1 _, HX.out.setCell (Nat.le_refl _) _⟩
        case rel => exact ⟨k + 1, x1, x2, x3 + 1, by omega, by go_num, by rw [HT.out, S1.out, if_neg (by simp [HVAL.out])]; simpa using E1.out, by rw [HT.out, S2.out, if_neg (by simp [HVAL.out])]; simpa using E2.out, by rw [HT.out, S3.out, if_pos ⟨HV.out, HVAL.out⟩, ← E3.out], HB.out.set_ 2 _, HX.out.setCell (Nat.le_refl _) _⟩
    · have hB0 : B3 _ w.heap.size 0 0 0 := ((Blk.new w _ _).ext HX1.out).ext HX.out
      have r0 := hB0.cell 0
      have r1 := hB0.cell 1
      have r2 := hB0.cell 2
      have rf0 := hB0.frozen 0
      have rf1 := hB0.frozen 1
      have rf2 := hB0.frozen 2
      have hne : w.heap.size ≠ w1.heap.size := by have := HX1.out.size_le; rw [World.size_alloc] at this; omega
      clear hB0
      go_wp2
      have t1 := E1.out
      have t2 := E2.out
      have t3 := E3.out
      rw [take_len_of h'.1 hlt] at t1 t2 t3
      subst t1 t2 t3
      exact bodyPost_ret (v := .agg #[.int .i64 (cnV l cl 1), .int .i64 (cnV l cl (-1)), .int .i64 (cnV l cl 0)]) (by simp [results, Tryz.results126, go_sem, *]) rfl ⟨rfl, ((((((Ext.refl _).alloc _).trans (HX1.out.trans HX.out)).setCell (Nat.le_refl _) _).setCell (Nat.le_refl _) _).setCell (Nat.le_refl _) _)⟩
end Go.Proofs.YtdgflniahoidmaaGreat

/- Layer 3 (assign): the reference's count; a clause's value, by the count and by the document. -/
namespace Go.Proofs.YtdgflniahoidmaaGreat
open Go.RowKit Go.Maps

set_option maxHeartbeats 2000000 in
theorem rCount_c (A : Option Addr) (n c : Nat) (l : List Int) (A' : Option Addr) (n' c' : Nat) (cl : List Int) (w : World) (h : IntSl w A n l) (h' : IntSl w A' n' cl) :
    Calls Tryz.prog 124 #[.slice A n c, .slice A' n' c'] w fun e w' => e = .returned (.agg #[.int .i64 (cnV l cl 1), .int .i64 (cnV l cl (-1)), .int .i64 (cnV l cl 0)]) ∧ Ext w w' := by
  have hn' := h'.len
  go_enter Tryz.func124, Tryz.ntmps124
  go_wp2
  go_loopw [6] (fun i wr => ∃ (k : Nat) (x y z : Int), k ≤ n' ∧ i = .int .i64 k ∧ x = cnV l (cl.take k) 1 ∧ y = cnV l (cl.take k) (-1) ∧ z = cnV l (cl.take k) 0 ∧ B3 wr (w.heap.size + 1) x y z ∧ B3 wr w.heap.size 0 0 0 ∧ Ext w wr) (fun i _ => n' - (intOf i).toNat)
  case atStart =>
    have h0 := (Blk.new w 149 #[.int .i64 0, .int .i64 0, .int .i64 0])
    have h1 := (Blk.new (w.alloc (Obj.cells #[.int .i64 0, .int .i64 0, .int .i64 0] 149)) 149 #[.int .i64 0, .int .i64 0, .int .i64 0])
    rw [World.size_alloc] at h1
    exact ⟨0, 0, 0, 0, Nat.zero_le _, rfl, rfl, rfl, rfl, h1, h0.alloc _, ((Ext.refl _).alloc _).alloc _⟩
  case round =>
    obtain ⟨k, x1, x2, x3, hk, rfl, e1, e2, e3, hb, hb0, hx⟩ := hrel
    have hbd1 := cnV_bd l (cl.take k) 1
    have hbd2 := cnV_bd l (cl.take k) (-1)
    have hbd3 := cnV_bd l (cl.take k) 0
    have hbl : (cl.take k).length ≤ k := List.length_take_le _ _
    rw [← e1] at hbd1
    rw [← e2] at hbd2
    rw [← e3] at hbd3
    have E1 := Lib.hid e1
    have E2 := Lib.hid e2
    have E3 := Lib.hid e3
    have HB := Lib.hid hb
    have HB0 := Lib.hid hb0
    have HX := Lib.hid hx
    have c0 := hb.cell 0
    have c1 := hb.cell 1
    have c2 := hb.cell 2
    have f0 := hb.frozen 0
    have f1 := hb.frozen 1
    have f2 := hb.frozen 2
    have b1 : 0 ≤ x1 ∧ x1 ≤ k := by omega
    have b2 : 0 ≤ x2 ∧ x2 ≤ k := by omega
    have b3 : 0 ≤ x3 ∧ x3 ≤ k := by omega
    obtain ⟨b1a, b1b⟩ := b1
    obtain ⟨b2a, b2b⟩ := b2
    obtain ⟨b3a, b3b⟩ := b3
    clear e1 e2 e3 hb hb0 hx hbd1 hbd2 hbd3 hbl
    by_cases hlt : k < n'
    · obtain ⟨ad, x, rfl, hx, hcx, hx1, hx2⟩ := (h'.ext HX.out).at_ hlt
      have hT := take_succ_of hx.out
      have HT := Lib.hid hT
      clear hT
      have S1 := Lib.hid (cnV_snoc l (cl.take k) x 1)
      have S2 := Lib.hid (cnV_snoc l (cl.take k) x (-1))
      have S3 := Lib.hid (cnV_snoc l (cl.take k) x 0)
      have hl := Lib.hid (h.ext HX.out)
      have hvi := varV_index x
      have hvz : varV x = 0 → valueV l x = 0 := fun e => by rw [valueV, if_pos e]
      have hvb := valueV_bd l x
      rcases (show (valueV l x = 1 ∧ varV x ≠ 0) ∨ (valueV l x = -1 ∧ varV x ≠ 0) ∨ (valueV l x = 0 ∧ varV x ≠ 0 ∧ 0 ≤ indexV x) ∨ (valueV l x = 0 ∧ varV x = 0 ∧ ¬ 0 ≤ indexV x) by omega) with ⟨hval, hv⟩ | ⟨hval, hv⟩ | ⟨hval, hv, hi⟩ | ⟨hval, hv, hi⟩
      all_goals
        have HV := Lib.hid hv
        have HVAL := Lib.hid hval
        clear hval hv hvb hvz hvi
        go_wp2_with (first
          | (go_at_call 74; refine (rIndex_c _ _).mono ?_; rintro e w' ⟨rfl, rfl⟩)
          | (go_at_call 96; refine (rValue_c _ _ _ l x _ hl.out).mono ?_; rintro e w' ⟨rfl, rfl⟩; rw [HVAL.out]))
        go_roundw
        case measure => simp [intOf]; omega
      case rel => exact ⟨k + 1, x1 + 1, x2, x3, by omega, by go_num, by rw [HT.out, S1.out, if_pos ⟨HV.out, HVAL.out⟩, ← E1.out], by rw [HT.out, S2.out, if_neg (by simp [HVAL.out])]; simpa using E2.out, by rw [HT.out, S3.out, if_neg (by simp [HVAL.out])]; simpa using E3.out, HB.out.set_ 0 _, HB0.out.far (by simp) _, HX.out.setCell (by simp) _⟩
      case rel => exact ⟨k + 1, x1, x2 + 1, x3, by omega, by go_num, by rw [HT.out, S1.out, if_neg (by simp [HVAL.out])]; simpa using E1.out, by rw [HT.out, S2.out, if_pos ⟨HV.out, HVAL.out⟩, ← E2.out], by rw [HT.out, S3.out, if_neg (by simp [HVAL.out])]; simpa using E3.out, HB.out.set_ 1 _, HB0.out.far (by simp) _, HX.out.setCell (by simp) _⟩
      case rel => exact ⟨k + 1, x1, x2, x3 + 1, by omega, by go_num, by rw [HT.out, S1.out, if_neg (by simp [HVAL.out])]; simpa using E1.out, by rw [HT.out, S2.out, if_neg (by simp [HVAL.out])]; simpa using E2.out, by rw [HT.out, S3.out, if_pos ⟨HV.out, HVAL.out⟩, ← E3.out], HB.out.set_ 2 _, HB0.out.far (by simp) _, HX.out.setCell (by simp) _⟩
      case rel => exact ⟨k + 1, x1, x2, x3, by omega, by go_num, by rw [HT.out, S1.out, if_neg (by simp [HV.out])]; simpa using E1.out, by rw [HT.out, S2.out, if_neg (by simp [HV.out])]; simpa using E2.out, by rw [HT.out, S3.out, if_neg (by simp [HV.out])]; simpa using E3.out, HB.out, HB0.out, HX.out⟩
    · have r0 := HB0.out.cell 0
      have r1 := HB0.out.cell 1
      have r2 := HB0.out.cell 2
      have rf0 := HB0.out.frozen 0
      have rf1 := HB0.out.frozen 1
      have rf2 := HB0.out.frozen 2
      go_wp2
      have t1 := E1.out
      have t2 := E2.out
      have t3 := E3.out
      rw [take_len_of h'.1 hlt] at t1 t2 t3
      subst t1 t2 t3
      exact bodyPost_ret (v := .agg #[.int .i64 (cnV l cl 1), .int .i64 (cnV l cl (-1)), .int .i64 (cnV l cl 0)]) (by simp [results, Tryz.results124, go_sem, *]) rfl ⟨rfl, (((HX.out.setCell (Nat.le_refl _) _).setCell (Nat.le_refl _) _).setCell (Nat.le_refl _) _)⟩

/-- A clause's value. -/
def clauseV (l c : List Int) : Int := if 0 < cnV l c 1 then 1 else if 0 < cnV l c 0 then 0 else -1
theorem clauseV_bd (l c : List Int) : -1 ≤ clauseV l c ∧ clauseV l c ≤ 1 := by unfold clauseV; (repeat (first | omega | split))
theorem clauseV_nil (l : List Int) : clauseV l [] = -1 := by rw [clauseV, cnV_nil, cnV_nil]; simp
theorem clauseV_skip (l c : List Int) {x : Int} (hv : varV x = 0) : clauseV l (c ++ [x]) = clauseV l c := by
  unfold clauseV; rw [cnV_snoc, cnV_snoc]; simp [hv]
theorem clauseV_up (l c : List Int) {x : Int} (hv : varV x ≠ 0) (hlt : clauseV l c < valueV l x) : clauseV l (c ++ [x]) = valueV l x := by
  have hb := valueV_bd l x
  have h1 := (cnV_bd l c 1).1
  have h2 := (cnV_bd l c 0).1
  have s1 := cnV_snoc l c x 1
  have s2 := cnV_snoc l c x 0
  unfold clauseV at hlt ⊢
  rw [s1, s2]
  rcases (show valueV l x = 1 ∨ valueV l x = -1 ∨ valueV l x = 0 by omega) with e | e | e <;> rw [e] at hlt ⊢ <;> simp only [hv, ne_eq, not_false_eq_true, true_and, if_true] <;> simp <;> (revert hlt; (repeat (first | omega | split)))
theorem clauseV_stay (l c : List Int) {x : Int} (hv : varV x ≠ 0) (hlt : ¬ clauseV l c < valueV l x) : clauseV l (c ++ [x]) = clauseV l c := by
  have hb := valueV_bd l x
  have h1 := (cnV_bd l c 1).1
  have h2 := (cnV_bd l c 0).1
  have s1 := cnV_snoc l c x 1
  have s2 := cnV_snoc l c x 0
  unfold clauseV at hlt ⊢
  rw [s1, s2]
  rcases (show valueV l x = 1 ∨ valueV l x = -1 ∨ valueV l x = 0 by omega) with e | e | e <;> rw [e] at hlt ⊢ <;> simp only [hv, ne_eq, not_false_eq_true, true_and, if_true] <;> simp <;> (revert hlt; (repeat (first | omega | split)))

theorem clause_c (A : Option Addr) (n c : Nat) (l : List Int) (A' : Option Addr) (n' c' : Nat) (cl : List Int) (w : World) (h : IntSl w A n l) (h' : IntSl w A' n' cl) (hsm : n ≤ 1000000000000) :
    Calls Tryz.prog 122 #[.slice A n c, .slice A' n' c'] w fun e w' => e = .returned (.int .i64 (clauseV l cl)) ∧ Ext w w' := by
  have b1 := (cnV_bd l cl 1).1
  have b2 := (cnV_bd l cl (-1)).1
  have b3 := (cnV_bd l cl 0).1
  have hcv : clauseV l cl = if 0 < cnV l cl 1 then 1 else if 0 < cnV l cl 0 then 0 else -1 := rfl
  have HCV := Lib.hid hcv
  clear hcv
  by_cases h1 : 0 < cnV l cl 1 <;> by_cases h0 : 0 < cnV l cl 0
  all_goals
    go_enter Tryz.func122, Tryz.ntmps122
    go_wp2_with (go_at_call 126; refine (count_c _ _ _ l _ _ _ cl _ h h' hsm).mono ?_; rintro e w1 ⟨rfl, hx1⟩; have HX1 := Lib.hid hx1; clear hx1)
    go_ret
    exact ⟨ret_int (by rw [HCV.out]; (repeat (first | omega | split))), by repeat (first | exact HX1.out | apply Ext.alloc | apply Ext.setCell)⟩

set_option maxHeartbeats 1000000 in
theorem rClause_c (A : Option Addr) (n c : Nat) (l : List Int) (A' : Option Addr) (n' c' : Nat) (cl : List Int) (w : World) (h : IntSl w A n l) (h' : IntSl w A' n' cl) :
    Calls Tryz.prog 114 #[.slice A n c, .slice A' n' c'] w fun e w' => e = .returned (.int .i64 (clauseV l cl)) ∧ w = w' := by
  have hn' := h'.len
  go_enter Tryz.func114, Tryz.ntmps114
  go_wp2
  go_loop [5, 6] (fun b i => ∃ (k : Nat) (y : Int), k ≤ n' ∧ i = .int .i64 k ∧ b = .int .i64 y ∧ y = clauseV l (cl.take k)) (fun b i => n' - (intOf i).toNat)
  case atStart => exact ⟨0, -1, Nat.zero_le _, rfl, rfl, (clauseV_nil l).symm⟩
  case round =>
    obtain ⟨k, y, hk, rfl, rfl, hy⟩ := hrel
    have hyb := clauseV_bd l (cl.take k)
    rw [← hy] at hyb
    obtain ⟨hyb1, hyb2⟩ := hyb
    have HY := Lib.hid hy
    clear hy
    by_cases hlt : k < n'
    · obtain ⟨ad, x, rfl, hx, hcx, hx1, hx2⟩ := h'.at_ hlt
      have hT := take_succ_of hx.out
      have HT := Lib.hid hT
      clear hT
      have hvi := varV_index x
      obtain ⟨hvb1, hvb2⟩ := valueV_bd l x
      by_cases hv : varV x = 0
      · have hi : ¬ 0 ≤ indexV x := by omega
        have HV := Lib.hid hv
        clear hv hvi
        go_wp2_with (first
          | (go_at_call 74; refine (rIndex_c _ _).mono ?_; rintro e w' ⟨rfl, rfl⟩)
          | (go_at_call 96; refine (rValue_c _ _ _ l x _ h).mono ?_; rintro e w' ⟨rfl, rfl⟩))
        go_round
        case rel => exact ⟨k + 1, _, by omega, by go_num, rfl, by rw [HT.out, clauseV_skip l _ HV.out]; exact HY.out⟩
        case measure => simp [intOf]; omega
      · have hi : 0 ≤ indexV x := by omega
        have HV := Lib.hid hv
        clear hv hvi
        by_cases hgt : y < valueV l x
        · go_wp2_with (first
            | (go_at_call 74; refine (rIndex_c _ _).mono ?_; rintro e w' ⟨rfl, rfl⟩)
            | (go_at_call 96; refine (rValue_c _ _ _ l x _ h).mono ?_; rintro e w' ⟨rfl, rfl⟩))
          go_round
          case rel => exact ⟨k + 1, _, by omega, by go_num, rfl, by rw [HT.out, clauseV_up l _ HV.out (by rw [← HY.out]; exact hgt)]⟩
          case measure => simp [intOf]; omega
        · go_wp2_with (first
            | (go_at_call 74; refine (rIndex_c _ _).mono ?_; rintro e w' ⟨rfl, rfl⟩)
            | (go_at_call 96; refine (rValue_c _ _ _ l x _ h).mono ?_; rintro e w' ⟨rfl, rfl⟩))
          go_round
          case rel => exact ⟨k + 1, _, by omega, by go_num, rfl, by rw [HT.out, clauseV_stay l _ HV.out (by rw [← HY.out]; omega)]; exact HY.out⟩
          case measure => simp [intOf]; omega
    · go_wp2
      go_ret
      exact ⟨ret_int (by have := HY.out; rw [take_len_of h'.1 hlt] at this; exact this), rfl⟩
end Go.Proofs.YtdgflniahoidmaaGreat

/- Layer 3 (assign): what a unit clause says. -/
namespace Go.Proofs.YtdgflniahoidmaaGreat
open Go.RowKit Go.Maps

/-- Is a literal open? -/
def opP (l : List Int) (x : Int) : Bool := decide (varV x ≠ 0) && decide (valueV l x = 0)
theorem cnV_filter (l c : List Int) : cnV l c 0 = ((c.filter (opP l)).length : Nat) := by rw [← List.countP_eq_length_filter]; rfl
/-- The open literal of a clause. -/
def openV (l c : List Int) : Int := (c.filter (opP l)).headD 0
/-- Is a clause unit? -/
def unitB (l c : List Int) : Bool := decide (cnV l c 1 = 0) && decide (cnV l c 0 = 1)
def unitU (l c : List Int) : Int := if unitB l c then openV l c else 0
theorem unitB_of {l c : List Int} (h1 : cnV l c 1 = 0) (h0 : cnV l c 0 = 1) : unitB l c = true := by simp [unitB, h1, h0]
theorem unitB_not1 {l c : List Int} (h1 : ¬ cnV l c 1 = 0) : unitB l c = false := by simp [unitB, h1]
theorem unitB_not0 {l c : List Int} (h0 : ¬ cnV l c 0 = 1) : unitB l c = false := by simp [unitB, h0]
theorem unit_one {l c : List Int} (h0 : cnV l c 0 = 1) : c.filter (opP l) = [openV l c] := by
  rw [cnV_filter] at h0
  unfold openV
  have h1 : (c.filter (opP l)).length = 1 := by omega
  obtain ⟨a, e⟩ := List.length_eq_one_iff.1 h1
  rw [e]; rfl
theorem find_first {α : Type} {p : α → Bool} {xs : List α} {d : α} (h : xs.filter p ≠ []) : ∃ k : Nat, idxP p xs = k ∧ k < xs.length ∧ xs[k]? = some ((xs.filter p).headD d) := by
  unfold idxP
  cases e : xs.findIdx? p with
  | none =>
    rw [List.findIdx?_eq_none_iff] at e
    exact absurd (List.filter_eq_nil_iff.2 (fun x hx => by simp [e x hx])) h
  | some k =>
    have e' := e
    rw [List.findIdx?_eq_some_iff_getElem] at e
    obtain ⟨hk, hp, hno⟩ := e
    refine ⟨k, rfl, hk, ?_⟩
    have hf : xs.find? p = some xs[k] := by
      rw [List.find?_eq_some_iff_getElem]
      exact ⟨hp, k, hk, rfl, fun j hj => by simpa using hno j hj⟩
    rw [← List.head?_filter] at hf
    cases hq : xs.filter p with
    | nil => rw [hq] at hf; simp at hf
    | cons y ys => rw [hq] at hf; simp at hf; simp [hf, hk]

theorem unit1_c (b k : Nat) (l : List Int) (x : Int) (p q : Addr) (w : World) (hq : w.cell? q = some (.func (.func 129) #[] #[.pointer (some p)])) (hp : w.cell? p = some (.map (some b))) (hc : Cnt w b k (cntV l)) :
    Calls Tryz.prog 128 #[.int .i64 x, .pointer (some q)] w fun e w' => e = .returned (.bool (opP l x)) ∧ w = w' := by
  have hb := varV_bd x
  obtain ⟨hb1, hb2⟩ := hb
  have HC := Lib.hid hc
  have HP := Lib.hid hp
  clear hc hp
  by_cases hv : varV x = 0
  · have HV := Lib.hid hv
    have hvb : ¬ 0 < varV x := by omega
    clear hv
    go_enter Tryz.func128, Tryz.ntmps128
    go_wp2_with (go_at_call 85; refine (var_c _ _).mono ?_; rintro e w' ⟨rfl, rfl⟩)
    go_ret
    exact ⟨ret_bool (by simp [opP, HV.out]), rfl⟩
  · have HV := Lib.hid hv
    have hvb : 0 < varV x := by omega
    clear hv
    go_enter Tryz.func128, Tryz.ntmps128
    go_wp2_with (first
      | (go_at_call 85; refine (var_c _ _).mono ?_; rintro e w' ⟨rfl, rfl⟩)
      | (go_at_call 129; refine (valuer1_c b k l x p _ HP.out HC.out HV.out).mono ?_; rintro e w' ⟨rfl, rfl⟩))
    go_ret
    exact ⟨ret_bool (by simp [opP, HV.out]; rw [Bool.eq_iff_iff]; simp), rfl⟩

set_option maxHeartbeats 1000000 in
theorem unit_c (A : Option Addr) (n c : Nat) (l : List Int) (A' : Option Addr) (n' c' : Nat) (cl : List Int) (w : World) (h : IntSl w A n l) (h' : IntSl w A' n' cl) (hsm : n ≤ 1000000000000) :
    Calls Tryz.prog 123 #[.slice A n c, .slice A' n' c'] w fun e w' => e = .returned (.tuple #[.int .i64 (unitU l cl), .bool (unitB l cl)]) ∧ Ext w w' := by
  have b1 := (cnV_bd l cl 1).1
  have b2 := (cnV_bd l cl (-1)).1
  have b3 := (cnV_bd l cl 0).1
  by_cases h1 : 0 < cnV l cl 1
  · have HB := Lib.hid (unitB_not1 (show ¬ cnV l cl 1 = 0 by omega))
    go_enter Tryz.func123, Tryz.ntmps123
    go_wp2_with (go_at_call 126; refine (count_c _ _ _ l _ _ _ cl _ h h' hsm).mono ?_; rintro e w1 ⟨rfl, hx1⟩; have HX1 := Lib.hid hx1; clear hx1)
    go_ret2
    exact ⟨ret_ib (by rw [unitU, HB.out]; rfl) HB.out.symm, by repeat (first | exact HX1.out | apply Ext.alloc | apply Ext.setCell)⟩
  · by_cases h0 : cnV l cl 0 = 1
    · have HB := Lib.hid (unitB_of (show cnV l cl 1 = 0 by omega) h0)
      obtain ⟨j, hj, hjlt, hju⟩ := find_first (p := opP l) (xs := cl) (d := 0) (by rw [unit_one h0]; simp)
      have hjn : j < n' := by rw [← h'.1]; exact hjlt
      have HJU := Lib.hid hju
      have h0b : (cnV l cl 0 == 1) = true := by simpa using h0
      have h0b : (cnV l cl 0 != 1) = false := by simpa using h0
      have HJ := Lib.hid hj
      clear hj hju h0
      go_enter Tryz.func123, Tryz.ntmps123
      go_wp2_with (go_at_call 126; refine (count_c _ _ _ l _ _ _ cl _ h h' hsm).mono ?_; rintro e w1 ⟨rfl, hx1⟩; have HX1 := Lib.hid hx1; clear hx1)
      refine (valuer_c _ _ _ l _ ?_ hsm).mono ?_
      · exact h.ext (by repeat (first | exact HX1.out | apply Ext.alloc | apply Ext.setCell))
      rintro e w2 ⟨p, b, rfl, hp, hc, hx2⟩
      have HP := Lib.hid hp
      have HC := Lib.hid hc
      have HX2 := Lib.hid hx2
      clear hp hc hx2
      go_wp2_with fail
      have hx12 : Ext w (w2.alloc (Obj.cells #[Value.func (Fn.func 129) #[] #[Value.pointer (some p)]] 82)) := by repeat (first | exact HX1.out | apply Ext.alloc | apply Ext.setCell | refine Ext.trans ?_ HX2.out)
      have HX12 := Lib.hid hx12
      obtain ⟨ad, x, rfl, hx, hcx, hx1, hx2⟩ := (h'.ext hx12).at_ hjn
      clear hx12
      refine (idxFunc_c _ _ _ cl (opP l) _ _ _ (h'.ext HX12.out) enters_unit ?_).mono ?_
      · intro y _
        have hB := Blk.new w2 82 #[Value.func (Fn.func 129) #[] #[Value.pointer (some p)]]
        exact unit1_c b _ l y p _ _ (hB.cell 0) (((Ext.refl _).alloc _).cell HP.out) (HC.out.ext ((Ext.refl _).alloc _))
      rintro e w' ⟨rfl, rfl⟩
      rw [HJ.out]
      go_wp2
      go_ret2
      refine ⟨ret_ib ?_ HB.out.symm, HX12.out⟩
      rw [unitU, HB.out, if_pos rfl, openV]
      have := HJU.out
      rw [hx.out] at this
      exact Option.some.inj this
    · have HB := Lib.hid (unitB_not0 h0)
      have h0b : (cnV l cl 0 == 1) = false := by simpa using h0
      have h0b : (cnV l cl 0 != 1) = true := by simpa using h0
      clear h0
      go_enter Tryz.func123, Tryz.ntmps123
      go_wp2_with (go_at_call 126; refine (count_c _ _ _ l _ _ _ cl _ h h' hsm).mono ?_; rintro e w1 ⟨rfl, hx1⟩; have HX1 := Lib.hid hx1; clear hx1)
      go_ret2
      exact ⟨ret_ib (by rw [unitU, HB.out]; rfl) HB.out.symm, by repeat (first | exact HX1.out | apply Ext.alloc | apply Ext.setCell)⟩

/-- What the reference's Unit hands back. -/
theorem rUnit_snoc {l c : List Int} {k : Nat} {x : Int} (hx : c[k]? = some x) : (c.take (k + 1)).filter (opP l) = (c.take k).filter (opP l) ++ if opP l x then [x] else [] := by
  rw [take_succ_of hx, List.filter_append]; congr 1; simp only [List.filter_cons, List.filter_nil]

set_option maxHeartbeats 1000000 in
theorem rUnit_c (A : Option Addr) (n c : Nat) (l : List Int) (A' : Option Addr) (n' c' : Nat) (cl : List Int) (w : World) (h : IntSl w A n l) (h' : IntSl w A' n' cl) :
    Calls Tryz.prog 115 #[.slice A n c, .slice A' n' c'] w fun e w' => e = .returned (.tuple #[.int .i64 (unitU l cl), .bool (unitB l cl)]) ∧ Ext w w' := by
  have hn' := h'.len
  have b1 := (cnV_bd l cl 1).1
  have b3 := (cnV_bd l cl 0).1
  by_cases h1 : cnV l cl 1 = 0
  · by_cases h0 : cnV l cl 0 = 1
    · have HB := Lib.hid (unitB_of h1 h0)
      have HO := Lib.hid (unit_one h0)
      have h1b : (cnV l cl 1 != 0) = false := by simpa using h1
      have h0b : (cnV l cl 0 != 1) = false := by simpa using h0
      clear h1 h0
      go_enter Tryz.func115, Tryz.ntmps115
      go_wp2_with (go_at_call 124; refine (rCount_c _ _ _ l _ _ _ cl _ h h').mono ?_; rintro e w1 ⟨rfl, hx1⟩; have HX1 := Lib.hid hx1; clear hx1)
      go_loop [7, 8] (fun b i => ∃ (k : Nat) (y : Int), k ≤ n' ∧ i = .int .i64 k ∧ b = .int .i64 y ∧ y = ((cl.take k).filter (opP l)).getLastD 0) (fun b i => n' - (intOf i).toNat)
      case atStart => exact ⟨0, 0, Nat.zero_le _, rfl, rfl, rfl⟩
      case round =>
        obtain ⟨k, y, hk, rfl, rfl, hy⟩ := hrel
        have HY := Lib.hid hy
        clear hy
        have hX := (HX1.out.alloc (Obj.cells #[Value.int .i64 (cnV l cl 1), Value.int .i64 (cnV l cl (-1)), Value.int .i64 (cnV l cl 0)] 149))
        have HX := Lib.hid hX
        clear hX
        by_cases hlt : k < n'
        · obtain ⟨ad, x, rfl, hx, hcx, hx1, hx2⟩ := (h'.ext HX.out).at_ hlt
          have HF := Lib.hid (rUnit_snoc (l := l) hx.out)
          have hvi := varV_index x
          by_cases hv : varV x = 0
          · have hi : ¬ 0 ≤ indexV x := by omega
            have HV := Lib.hid hv
            clear hv hvi
            go_wp2_with (first
              | (go_at_call 74; refine (rIndex_c _ _).mono ?_; rintro e w' ⟨rfl, rfl⟩)
              | (go_at_call 96; refine (rValue_c _ _ _ l x _ (h.ext HX.out)).mono ?_; rintro e w' ⟨rfl, rfl⟩))
            go_round
            case rel => exact ⟨k + 1, _, by omega, by go_num, rfl, by rw [HF.out, if_neg (by simp [opP, HV.out]), List.append_nil]; exact HY.out⟩
            case measure => simp [intOf]; omega
          · have hi : 0 ≤ indexV x := by omega
            have HV := Lib.hid hv
            clear hv hvi
            by_cases hz : valueV l x = 0
            · have HZ := Lib.hid hz
              have hzb : (valueV l x == 0) = true := by simpa using hz
              clear hz
              go_wp2_with (first
                | (go_at_call 74; refine (rIndex_c _ _).mono ?_; rintro e w' ⟨rfl, rfl⟩)
                | (go_at_call 96; refine (rValue_c _ _ _ l x _ (h.ext HX.out)).mono ?_; rintro e w' ⟨rfl, rfl⟩))
              go_round
              case rel => exact ⟨k + 1, _, by omega, by go_num, rfl, by rw [HF.out, if_pos (by simp [opP, HV.out, HZ.out])]; simp⟩
              case measure => simp [intOf]; omega
            · have HZ := Lib.hid hz
              have hzb : (valueV l x == 0) = false := by simpa using hz
              clear hz
              go_wp2_with (first
                | (go_at_call 74; refine (rIndex_c _ _).mono ?_; rintro e w' ⟨rfl, rfl⟩)
                | (go_at_call 96; refine (rValue_c _ _ _ l x _ (h.ext HX.out)).mono ?_; rintro e w' ⟨rfl, rfl⟩))
              go_round
              case rel => exact ⟨k + 1, _, by omega, by go_num, rfl, by rw [HF.out, if_neg (by simp [opP, HV.out, HZ.out]), List.append_nil]; exact HY.out⟩
              case measure => simp [intOf]; omega
        · go_wp2
          go_ret2
          refine ⟨ret_ib ?_ HB.out.symm, HX.out⟩
          have := HY.out
          rw [take_len_of h'.1 hlt, HO.out] at this
          rw [unitU, HB.out, if_pos rfl, this]; rfl
    · have HB := Lib.hid (unitB_not0 h0)
      have h1b : (cnV l cl 1 != 0) = false := by simpa using h1
      have h0b : (cnV l cl 0 != 1) = true := by simpa using h0
      clear h1 h0
      go_enter Tryz.func115, Tryz.ntmps115
      go_wp2_with (go_at_call 124; refine (rCount_c _ _ _ l _ _ _ cl _ h h').mono ?_; rintro e w1 ⟨rfl, hx1⟩; have HX1 := Lib.hid hx1; clear hx1)
      go_ret2
      exact ⟨ret_ib (by rw [unitU, HB.out]; rfl) HB.out.symm, by repeat (first | exact HX1.out | apply Ext.alloc | apply Ext.setCell)⟩
  · have HB := Lib.hid (unitB_not1 h1)
    have h1b : (cnV l cl 1 != 0) = true := by simpa using h1
    clear h1
    go_enter Tryz.func115, Tryz.ntmps115
    go_wp2_with (go_at_call 124; refine (rCount_c _ _ _ l _ _ _ cl _ h h').mono ?_; rintro e w1 ⟨rfl, hx1⟩; have HX1 := Lib.hid hx1; clear hx1)
    go_ret2
    exact ⟨ret_ib (by rw [unitU, HB.out]; rfl) HB.out.symm, by repeat (first | exact HX1.out | apply Ext.alloc | apply Ext.setCell)⟩
end Go.Proofs.YtdgflniahoidmaaGreat
