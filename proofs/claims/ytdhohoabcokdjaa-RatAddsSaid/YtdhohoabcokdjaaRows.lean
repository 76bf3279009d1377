/-
  No cell of these rows narrows 'for every input' (looked for: loops, veiled, ifaces, maps, wideKeys, modest, calm, conditions, laid).
  DERIVED. THE GIVEN ROWS OF THIS SEAT. 8 by the template 'for every input the law returns true; each argument reads behind the call as it read before'; 0 by the template 'total and deterministic' (their statements: YtdhohoabcokdjaaTotals.lean).
  GIVEN WITH THE SEED: the statements are not yours to turn. If you find one false, say at which input.
  Laid BY PROGRAM, IN A SANDBOX (cutbox-rows.mjs): the forced cells as the released guide's own fill.sh prints them over the translation 8e9e9b05814b2c12… (all of the seat's roots in one cut). By AI agents, Wed Nov 11 2026. No macro, syntax, notation, axiom, sorry.
-/
import Derived.Test.YtdhohoabcokdjaaChecked
import GoSem.Claim
import GoSem.ClaimJoined
import GoSem.ClaimMapViews
import Derived.JoinedTies
import Derived.KernelRfl
namespace Go.Proofs.Ytdhohoabcokdjaa
/- THE CELL 'sum', in the pinned program and in every row, IS THE sha256 OF THE DUMP (.gsa) THAT YtdhohoabcokdjaaProg.lean LOADS. Nothing in Lean hashes anything: it is a label: what it is worth is what the hold of that sum in a sandbox is worth. -/
noncomputable def Try.pinned : Pinned := { name := "ytdhohoabcokdjaa", sum := "8e9e9b05814b2c12ddcc12964a3da718612ef7636f62dfb462537527e9146e68", checked := Try.checked }
namespace Rows
def none {H : Type} : Left H := { results := [], args := [] }

/-- 'replevinlaw08.RupTells': WHATEVER THE INPUT: true; the input reads as it did. -/
def rupTellsSpec : ChangeSpec := { name := "rupTells", fn := fun _ => fun
  | [d1, d2, d3] => { results := [.lit (.bool true)], args := [d1, d2, d3] }
  | _ => none }
def rupTellsRow : OpenClaim := { program := "ytdhohoabcokdjaa", sum := "8e9e9b05814b2c12ddcc12964a3da718612ef7636f62dfb462537527e9146e68", func := "replevin/replevinlaw08.RupTells", spec := "rupTells", unfollowed := true, recurses := true, apart := false }
def RupTellsSaid : Prop := rupTellsRow.holds Try.pinned (OpenSpec.ofChange rupTellsSpec)

/-- ITS FALSE NEIGHBOUR: 'it returns false'. Refute it at one input. -/
def rupTellsWrong : ChangeSpec := { name := "rupTells", fn := fun _ => fun
  | [d1, d2, d3] => { results := [.lit (.bool false)], args := [d1, d2, d3] }
  | _ => none }
def RupTellsWrongFalsely : Prop := rupTellsRow.holds Try.pinned (OpenSpec.ofChange rupTellsWrong)

/-- 'replevinlaw08.RupFollows': WHATEVER THE INPUT: true; the input reads as it did. -/
def rupFollowsSpec : ChangeSpec := { name := "rupFollows", fn := fun _ => fun
  | [d1, d2, d3] => { results := [.lit (.bool true)], args := [d1, d2, d3] }
  | _ => none }
def rupFollowsRow : OpenClaim := { program := "ytdhohoabcokdjaa", sum := "8e9e9b05814b2c12ddcc12964a3da718612ef7636f62dfb462537527e9146e68", func := "replevin/replevinlaw08.RupFollows", spec := "rupFollows", unfollowed := true, recurses := true, apart := false }
def RupFollowsSaid : Prop := rupFollowsRow.holds Try.pinned (OpenSpec.ofChange rupFollowsSpec)

/-- ITS FALSE NEIGHBOUR: 'it returns false'. Refute it at one input. -/
def rupFollowsWrong : ChangeSpec := { name := "rupFollows", fn := fun _ => fun
  | [d1, d2, d3] => { results := [.lit (.bool false)], args := [d1, d2, d3] }
  | _ => none }
def RupFollowsWrongFalsely : Prop := rupFollowsRow.holds Try.pinned (OpenSpec.ofChange rupFollowsWrong)

/-- 'replevinlaw08.RupUnits': WHATEVER THE INPUT: true; the input reads as it did. -/
def rupUnitsSpec : ChangeSpec := { name := "rupUnits", fn := fun _ => fun
  | [d1, d2] => { results := [.lit (.bool true)], args := [d1, d2] }
  | _ => none }
def rupUnitsRow : OpenClaim := { program := "ytdhohoabcokdjaa", sum := "8e9e9b05814b2c12ddcc12964a3da718612ef7636f62dfb462537527e9146e68", func := "replevin/replevinlaw08.RupUnits", spec := "rupUnits", unfollowed := true, recurses := true, apart := false }
def RupUnitsSaid : Prop := rupUnitsRow.holds Try.pinned (OpenSpec.ofChange rupUnitsSpec)

/-- ITS FALSE NEIGHBOUR: 'it returns false'. Refute it at one input. -/
def rupUnitsWrong : ChangeSpec := { name := "rupUnits", fn := fun _ => fun
  | [d1, d2] => { results := [.lit (.bool false)], args := [d1, d2] }
  | _ => none }
def RupUnitsWrongFalsely : Prop := rupUnitsRow.holds Try.pinned (OpenSpec.ofChange rupUnitsWrong)

/-- 'replevinlaw09.RatCandidates': WHATEVER THE INPUT: true; the input reads as it did. -/
def ratCandidatesSpec : ChangeSpec := { name := "ratCandidates", fn := fun _ => fun
  | [d1, d2, d3] => { results := [.lit (.bool true)], args := [d1, d2, d3] }
  | _ => none }
def ratCandidatesRow : OpenClaim := { program := "ytdhohoabcokdjaa", sum := "8e9e9b05814b2c12ddcc12964a3da718612ef7636f62dfb462537527e9146e68", func := "replevin/replevinlaw09.RatCandidates", spec := "ratCandidates", unfollowed := true, recurses := true, apart := false }
def RatCandidatesSaid : Prop := ratCandidatesRow.holds Try.pinned (OpenSpec.ofChange ratCandidatesSpec)

/-- ITS FALSE NEIGHBOUR: 'it returns false'. Refute it at one input. -/
def ratCandidatesWrong : ChangeSpec := { name := "ratCandidates", fn := fun _ => fun
  | [d1, d2, d3] => { results := [.lit (.bool false)], args := [d1, d2, d3] }
  | _ => none }
def RatCandidatesWrongFalsely : Prop := ratCandidatesRow.holds Try.pinned (OpenSpec.ofChange ratCandidatesWrong)

/-- 'replevinlaw09.RatAdds': WHATEVER THE INPUT: true; the input reads as it did. -/
def ratAddsSpec : ChangeSpec := { name := "ratAdds", fn := fun _ => fun
  | [d1, d2] => { results := [.lit (.bool true)], args := [d1, d2] }
  | _ => none }
def ratAddsRow : OpenClaim := { program := "ytdhohoabcokdjaa", sum := "8e9e9b05814b2c12ddcc12964a3da718612ef7636f62dfb462537527e9146e68", func := "replevin/replevinlaw09.RatAdds", spec := "ratAdds", unfollowed := true, recurses := true, apart := false }
def RatAddsSaid : Prop := ratAddsRow.holds Try.pinned (OpenSpec.ofChange ratAddsSpec)

/-- ITS FALSE NEIGHBOUR: 'it returns false'. Refute it at one input. -/
def ratAddsWrong : ChangeSpec := { name := "ratAdds", fn := fun _ => fun
  | [d1, d2] => { results := [.lit (.bool false)], args := [d1, d2] }
  | _ => none }
def RatAddsWrongFalsely : Prop := ratAddsRow.holds Try.pinned (OpenSpec.ofChange ratAddsWrong)

/-- 'replevinlaw04.CnfValues': WHATEVER THE INPUT: true; the input reads as it did. -/
def cnfValuesSpec : ChangeSpec := { name := "cnfValues", fn := fun _ => fun
  | [d1, d2, d3] => { results := [.lit (.bool true)], args := [d1, d2, d3] }
  | _ => none }
def cnfValuesRow : OpenClaim := { program := "ytdhohoabcokdjaa", sum := "8e9e9b05814b2c12ddcc12964a3da718612ef7636f62dfb462537527e9146e68", func := "replevin/replevinlaw04.CnfValues", spec := "cnfValues", unfollowed := true, recurses := true, apart := false }
def CnfValuesSaid : Prop := cnfValuesRow.holds Try.pinned (OpenSpec.ofChange cnfValuesSpec)

/-- ITS FALSE NEIGHBOUR: 'it returns false'. Refute it at one input. -/
def cnfValuesWrong : ChangeSpec := { name := "cnfValues", fn := fun _ => fun
  | [d1, d2, d3] => { results := [.lit (.bool false)], args := [d1, d2, d3] }
  | _ => none }
def CnfValuesWrongFalsely : Prop := cnfValuesRow.holds Try.pinned (OpenSpec.ofChange cnfValuesWrong)

/-- 'replevinlaw04.CnfMore': WHATEVER THE INPUT: true; the input reads as it did. -/
def cnfMoreSpec : ChangeSpec := { name := "cnfMore", fn := fun _ => fun
  | [d1, d2, d3] => { results := [.lit (.bool true)], args := [d1, d2, d3] }
  | _ => none }
def cnfMoreRow : OpenClaim := { program := "ytdhohoabcokdjaa", sum := "8e9e9b05814b2c12ddcc12964a3da718612ef7636f62dfb462537527e9146e68", func := "replevin/replevinlaw04.CnfMore", spec := "cnfMore", unfollowed := true, recurses := true, apart := false }
def CnfMoreSaid : Prop := cnfMoreRow.holds Try.pinned (OpenSpec.ofChange cnfMoreSpec)

/-- ITS FALSE NEIGHBOUR: 'it returns false'. Refute it at one input. -/
def cnfMoreWrong : ChangeSpec := { name := "cnfMore", fn := fun _ => fun
  | [d1, d2, d3] => { results := [.lit (.bool false)], args := [d1, d2, d3] }
  | _ => none }
def CnfMoreWrongFalsely : Prop := cnfMoreRow.holds Try.pinned (OpenSpec.ofChange cnfMoreWrong)

/-- 'replevinlaw04.CnfHolds': WHATEVER THE INPUT: true; the input reads as it did. -/
def cnfHoldsSpec : ChangeSpec := { name := "cnfHolds", fn := fun _ => fun
  | [d1, d2] => { results := [.lit (.bool true)], args := [d1, d2] }
  | _ => none }
def cnfHoldsRow : OpenClaim := { program := "ytdhohoabcokdjaa", sum := "8e9e9b05814b2c12ddcc12964a3da718612ef7636f62dfb462537527e9146e68", func := "replevin/replevinlaw04.CnfHolds", spec := "cnfHolds", unfollowed := true, recurses := true, apart := false }
def CnfHoldsSaid : Prop := cnfHoldsRow.holds Try.pinned (OpenSpec.ofChange cnfHoldsSpec)

/-- ITS FALSE NEIGHBOUR: 'it returns false'. Refute it at one input. -/
def cnfHoldsWrong : ChangeSpec := { name := "cnfHolds", fn := fun _ => fun
  | [d1, d2] => { results := [.lit (.bool false)], args := [d1, d2] }
  | _ => none }
def CnfHoldsWrongFalsely : Prop := cnfHoldsRow.holds Try.pinned (OpenSpec.ofChange cnfHoldsWrong)

/- THE SECOND FORM. 'bulk': how many values and letters a reading holds, each counted each time it is reached (what is shared counts as often as it is met; a slice's spare places count too). A statement '..UptoSaid' is the law's where the arguments, and the package variables that the reading takes, are together of bulk at most 1048576: NARROWER than '..Said'. Prove '..Said' where nothing that the law and all that it calls make is longer than what came in: it says more and counts as full. Else prove '..UptoSaid'. A law counts once. -/
mutual
def uptoBulk {H : Type} : DataW H → Nat
  | .lit (.string bytes) => bytes.length + 1
  | .lit _ => 1
  | .nil => 1
  | .ptr d => uptoBulk d + 1
  | .slice elems spare => uptoBulkAll elems + uptoBulkAll spare + 1
  | .agg parts => uptoBulkAll parts + 1
  | .iface _ d => uptoBulk d + 1
  | .map entries => uptoBulkEntries entries + 1
  | .held _ => 1
def uptoBulkAll {H : Type} : List (DataW H) → Nat
  | [] => 0
  | d :: r => uptoBulk d + uptoBulkAll r
def uptoBulkEntries {H : Type} : List (Lit × DataW H) → Nat
  | [] => 0
  | x :: r => uptoBulkEntry x + uptoBulkEntries r
def uptoBulkEntry {H : Type} : Lit × DataW H → Nat
  | (.string bytes, d) => bytes.length + uptoBulk d + 1
  | (_, d) => uptoBulk d + 1
 end
def uptoSmall : (H : Type) → List (DataW H) → Bool := fun _ ds => decide (uptoBulkAll ds ≤ 1048576)
def OpenSpec.upto (s : _root_.Go.ChangeSpec) : _root_.Go.OpenSpec := { _root_.Go.OpenSpec.ofChange s with cond := some uptoSmall }

/-- 'replevinlaw08.RupTells', WHERE WHAT IT READS IS OF BULK AT MOST 1048576: true; the input reads as it did. -/
def rupTellsUptoRow : OpenClaim := { program := "ytdhohoabcokdjaa", sum := "8e9e9b05814b2c12ddcc12964a3da718612ef7636f62dfb462537527e9146e68", func := "replevin/replevinlaw08.RupTells", spec := "rupTells", unfollowed := true, recurses := true, apart := false, narrowed := true }
def RupTellsUptoSaid : Prop := rupTellsUptoRow.holds Try.pinned (OpenSpec.upto rupTellsSpec)

/-- 'replevinlaw08.RupFollows', WHERE WHAT IT READS IS OF BULK AT MOST 1048576: true; the input reads as it did. -/
def rupFollowsUptoRow : OpenClaim := { program := "ytdhohoabcokdjaa", sum := "8e9e9b05814b2c12ddcc12964a3da718612ef7636f62dfb462537527e9146e68", func := "replevin/replevinlaw08.RupFollows", spec := "rupFollows", unfollowed := true, recurses := true, apart := false, narrowed := true }
def RupFollowsUptoSaid : Prop := rupFollowsUptoRow.holds Try.pinned (OpenSpec.upto rupFollowsSpec)

/-- 'replevinlaw08.RupUnits', WHERE WHAT IT READS IS OF BULK AT MOST 1048576: true; the input reads as it did. -/
def rupUnitsUptoRow : OpenClaim := { program := "ytdhohoabcokdjaa", sum := "8e9e9b05814b2c12ddcc12964a3da718612ef7636f62dfb462537527e9146e68", func := "replevin/replevinlaw08.RupUnits", spec := "rupUnits", unfollowed := true, recurses := true, apart := false, narrowed := true }
def RupUnitsUptoSaid : Prop := rupUnitsUptoRow.holds Try.pinned (OpenSpec.upto rupUnitsSpec)

/-- 'replevinlaw09.RatCandidates', WHERE WHAT IT READS IS OF BULK AT MOST 1048576: true; the input reads as it did. -/
def ratCandidatesUptoRow : OpenClaim := { program := "ytdhohoabcokdjaa", sum := "8e9e9b05814b2c12ddcc12964a3da718612ef7636f62dfb462537527e9146e68", func := "replevin/replevinlaw09.RatCandidates", spec := "ratCandidates", unfollowed := true, recurses := true, apart := false, narrowed := true }
def RatCandidatesUptoSaid : Prop := ratCandidatesUptoRow.holds Try.pinned (OpenSpec.upto ratCandidatesSpec)

/-- 'replevinlaw09.RatAdds', WHERE WHAT IT READS IS OF BULK AT MOST 1048576: true; the input reads as it did. -/
def ratAddsUptoRow : OpenClaim := { program := "ytdhohoabcokdjaa", sum := "8e9e9b05814b2c12ddcc12964a3da718612ef7636f62dfb462537527e9146e68", func := "replevin/replevinlaw09.RatAdds", spec := "ratAdds", unfollowed := true, recurses := true, apart := false, narrowed := true }
def RatAddsUptoSaid : Prop := ratAddsUptoRow.holds Try.pinned (OpenSpec.upto ratAddsSpec)

/-- 'replevinlaw04.CnfValues', WHERE WHAT IT READS IS OF BULK AT MOST 1048576: true; the input reads as it did. -/
def cnfValuesUptoRow : OpenClaim := { program := "ytdhohoabcokdjaa", sum := "8e9e9b05814b2c12ddcc12964a3da718612ef7636f62dfb462537527e9146e68", func := "replevin/replevinlaw04.CnfValues", spec := "cnfValues", unfollowed := true, recurses := true, apart := false, narrowed := true }
def CnfValuesUptoSaid : Prop := cnfValuesUptoRow.holds Try.pinned (OpenSpec.upto cnfValuesSpec)

/-- 'replevinlaw04.CnfMore', WHERE WHAT IT READS IS OF BULK AT MOST 1048576: true; the input reads as it did. -/
def cnfMoreUptoRow : OpenClaim := { program := "ytdhohoabcokdjaa", sum := "8e9e9b05814b2c12ddcc12964a3da718612ef7636f62dfb462537527e9146e68", func := "replevin/replevinlaw04.CnfMore", spec := "cnfMore", unfollowed := true, recurses := true, apart := false, narrowed := true }
def CnfMoreUptoSaid : Prop := cnfMoreUptoRow.holds Try.pinned (OpenSpec.upto cnfMoreSpec)

/-- 'replevinlaw04.CnfHolds', WHERE WHAT IT READS IS OF BULK AT MOST 1048576: true; the input reads as it did. -/
def cnfHoldsUptoRow : OpenClaim := { program := "ytdhohoabcokdjaa", sum := "8e9e9b05814b2c12ddcc12964a3da718612ef7636f62dfb462537527e9146e68", func := "replevin/replevinlaw04.CnfHolds", spec := "cnfHolds", unfollowed := true, recurses := true, apart := false, narrowed := true }
def CnfHoldsUptoSaid : Prop := cnfHoldsUptoRow.holds Try.pinned (OpenSpec.upto cnfHoldsSpec)

end Rows
end Go.Proofs.Ytdhohoabcokdjaa
