/-
  No cell of these rows narrows 'for every input' (looked for: loops, veiled, ifaces, maps, wideKeys, modest, calm, conditions, laid).
  DERIVED. THE GIVEN ROWS OF THIS SEAT. 4 by the template 'for every input the law returns true; each argument reads behind the call as it read before'; 0 by the template 'total and deterministic' (their statements: YtdiapihfjmbgoaaTotals.lean).
  GIVEN WITH THE SEED: the statements are not yours to turn. If you find one false, say at which input.
  Laid BY PROGRAM, IN A SANDBOX (cutbox-rows.mjs): the forced cells as the released guide's own fill.sh prints them over the translation 3c1e02d2f300a214… (all of the seat's roots in one cut). By AI agents, Wed Nov 11 2026. No macro, syntax, notation, axiom, sorry.
-/
import Derived.Test.YtdiapihfjmbgoaaChecked
import GoSem.Claim
import GoSem.ClaimJoined
import GoSem.ClaimMapViews
import Derived.JoinedTies
import Derived.KernelRfl
namespace Go.Proofs.Ytdiapihfjmbgoaa
/- THE CELL 'sum', in the pinned program and in every row, IS THE sha256 OF THE DUMP (.gsa) THAT YtdiapihfjmbgoaaProg.lean LOADS. Nothing in Lean hashes anything: it is a label: what it is worth is what the hold of that sum in a sandbox is worth. -/
noncomputable def Try.pinned : Pinned := { name := "ytdiapihfjmbgoaa", sum := "3c1e02d2f300a214ab33c6e2351a1b090e508d696e975b1c1be4ec9af84e8d4b", checked := Try.checked }
namespace Rows
def none {H : Type} : Left H := { results := [], args := [] }

/-- 'replevinlaw22.BruteTells': WHATEVER THE INPUT: true; the input reads as it did. -/
def bruteTellsSpec : ChangeSpec := { name := "bruteTells", fn := fun _ => fun
  | [d1, d2] => { results := [.lit (.bool true)], args := [d1, d2] }
  | _ => none }
def bruteTellsRow : OpenClaim := { program := "ytdiapihfjmbgoaa", sum := "3c1e02d2f300a214ab33c6e2351a1b090e508d696e975b1c1be4ec9af84e8d4b", func := "replevin/replevinlaw22.BruteTells", spec := "bruteTells", unfollowed := true, recurses := true, apart := false }
def BruteTellsSaid : Prop := bruteTellsRow.holds Try.pinned (OpenSpec.ofChange bruteTellsSpec)

/-- ITS FALSE NEIGHBOUR: 'it returns false'. Refute it at one input. -/
def bruteTellsWrong : ChangeSpec := { name := "bruteTells", fn := fun _ => fun
  | [d1, d2] => { results := [.lit (.bool false)], args := [d1, d2] }
  | _ => none }
def BruteTellsWrongFalsely : Prop := bruteTellsRow.holds Try.pinned (OpenSpec.ofChange bruteTellsWrong)

/-- 'replevinlaw22.BruteAsks': WHATEVER THE INPUT: true; the input reads as it did. -/
def bruteAsksSpec : ChangeSpec := { name := "bruteAsks", fn := fun _ => fun
  | [d1, d2, d3] => { results := [.lit (.bool true)], args := [d1, d2, d3] }
  | _ => none }
def bruteAsksRow : OpenClaim := { program := "ytdiapihfjmbgoaa", sum := "3c1e02d2f300a214ab33c6e2351a1b090e508d696e975b1c1be4ec9af84e8d4b", func := "replevin/replevinlaw22.BruteAsks", spec := "bruteAsks", unfollowed := true, recurses := true, apart := false }
def BruteAsksSaid : Prop := bruteAsksRow.holds Try.pinned (OpenSpec.ofChange bruteAsksSpec)

/-- ITS FALSE NEIGHBOUR: 'it returns false'. Refute it at one input. -/
def bruteAsksWrong : ChangeSpec := { name := "bruteAsks", fn := fun _ => fun
  | [d1, d2, d3] => { results := [.lit (.bool false)], args := [d1, d2, d3] }
  | _ => none }
def BruteAsksWrongFalsely : Prop := bruteAsksRow.holds Try.pinned (OpenSpec.ofChange bruteAsksWrong)

/-- 'replevinlaw22.BruteCounts': WHATEVER THE INPUT: true; the input reads as it did. -/
def bruteCountsSpec : ChangeSpec := { name := "bruteCounts", fn := fun _ => fun
  | [d1, d2] => { results := [.lit (.bool true)], args := [d1, d2] }
  | _ => none }
def bruteCountsRow : OpenClaim := { program := "ytdiapihfjmbgoaa", sum := "3c1e02d2f300a214ab33c6e2351a1b090e508d696e975b1c1be4ec9af84e8d4b", func := "replevin/replevinlaw22.BruteCounts", spec := "bruteCounts", unfollowed := true, recurses := true, apart := false }
def BruteCountsSaid : Prop := bruteCountsRow.holds Try.pinned (OpenSpec.ofChange bruteCountsSpec)

/-- ITS FALSE NEIGHBOUR: 'it returns false'. Refute it at one input. -/
def bruteCountsWrong : ChangeSpec := { name := "bruteCounts", fn := fun _ => fun
  | [d1, d2] => { results := [.lit (.bool false)], args := [d1, d2] }
  | _ => none }
def BruteCountsWrongFalsely : Prop := bruteCountsRow.holds Try.pinned (OpenSpec.ofChange bruteCountsWrong)

/-- 'replevinlaw22.BruteSplits': WHATEVER THE INPUT: true; the input reads as it did. -/
def bruteSplitsSpec : ChangeSpec := { name := "bruteSplits", fn := fun _ => fun
  | [d1, d2, d3] => { results := [.lit (.bool true)], args := [d1, d2, d3] }
  | _ => none }
def bruteSplitsRow : OpenClaim := { program := "ytdiapihfjmbgoaa", sum := "3c1e02d2f300a214ab33c6e2351a1b090e508d696e975b1c1be4ec9af84e8d4b", func := "replevin/replevinlaw22.BruteSplits", spec := "bruteSplits", unfollowed := true, recurses := true, apart := false }
def BruteSplitsSaid : Prop := bruteSplitsRow.holds Try.pinned (OpenSpec.ofChange bruteSplitsSpec)

/-- ITS FALSE NEIGHBOUR: 'it returns false'. Refute it at one input. -/
def bruteSplitsWrong : ChangeSpec := { name := "bruteSplits", fn := fun _ => fun
  | [d1, d2, d3] => { results := [.lit (.bool false)], args := [d1, d2, d3] }
  | _ => none }
def BruteSplitsWrongFalsely : Prop := bruteSplitsRow.holds Try.pinned (OpenSpec.ofChange bruteSplitsWrong)

/- THE SECOND FORM. 'bulk': how many values and letters a reading holds, each counted each time it is reached (what is shared counts as often as it is met; a slice's spare places count too). A statement '..UptoSaid' is the law's where the arguments, and the package variables that the reading takes, are together of bulk at most 1048576: NARROWER than '..Said'. Prove '..Said' where nothing that the law and all that it calls make is longer than what came in: it says more and counts as full. Else prove '..UptoSaid'. A law counts once. -/
mutual
def uptoBulk {H : Type} : DataW H → Nat
  | .lit (.string bytes) => bytes.length + 1
  | .lit _ => 1
  | .nil => 1
  | .ptr d => uptoBulk d + 1
  | .slice elems spare => uptoBulkAll elems + uptoBulkAll spare + 1
  | .agg parts => uptoBulkAll parts + 1
  | .iface _ d => uptoBulk d + 1
  | .map entries => uptoBulkEntries entries + 1
  | .held _ => 1
def uptoBulkAll {H : Type} : List (DataW H) → Nat
  | [] => 0
  | d :: r => uptoBulk d + uptoBulkAll r
def uptoBulkEntries {H : Type} : List (Lit × DataW H) → Nat
  | [] => 0
  | x :: r => uptoBulkEntry x + uptoBulkEntries r
def uptoBulkEntry {H : Type} : Lit × DataW H → Nat
  | (.string bytes, d) => bytes.length + uptoBulk d + 1
  | (_, d) => uptoBulk d + 1
 end
def uptoSmall : (H : Type) → List (DataW H) → Bool := fun _ ds => decide (uptoBulkAll ds ≤ 1048576)
def OpenSpec.upto (s : _root_.Go.ChangeSpec) : _root_.Go.OpenSpec := { _root_.Go.OpenSpec.ofChange s with cond := some uptoSmall }

/-- 'replevinlaw22.BruteTells', WHERE WHAT IT READS IS OF BULK AT MOST 1048576: true; the input reads as it did. -/
def bruteTellsUptoRow : OpenClaim := { program := "ytdiapihfjmbgoaa", sum := "3c1e02d2f300a214ab33c6e2351a1b090e508d696e975b1c1be4ec9af84e8d4b", func := "replevin/replevinlaw22.BruteTells", spec := "bruteTells", unfollowed := true, recurses := true, apart := false, narrowed := true }
def BruteTellsUptoSaid : Prop := bruteTellsUptoRow.holds Try.pinned (OpenSpec.upto bruteTellsSpec)

/-- 'replevinlaw22.BruteAsks', WHERE WHAT IT READS IS OF BULK AT MOST 1048576: true; the input reads as it did. -/
def bruteAsksUptoRow : OpenClaim := { program := "ytdiapihfjmbgoaa", sum := "3c1e02d2f300a214ab33c6e2351a1b090e508d696e975b1c1be4ec9af84e8d4b", func := "replevin/replevinlaw22.BruteAsks", spec := "bruteAsks", unfollowed := true, recurses := true, apart := false, narrowed := true }
def BruteAsksUptoSaid : Prop := bruteAsksUptoRow.holds Try.pinned (OpenSpec.upto bruteAsksSpec)

/-- 'replevinlaw22.BruteCounts', WHERE WHAT IT READS IS OF BULK AT MOST 1048576: true; the input reads as it did. -/
def bruteCountsUptoRow : OpenClaim := { program := "ytdiapihfjmbgoaa", sum := "3c1e02d2f300a214ab33c6e2351a1b090e508d696e975b1c1be4ec9af84e8d4b", func := "replevin/replevinlaw22.BruteCounts", spec := "bruteCounts", unfollowed := true, recurses := true, apart := false, narrowed := true }
def BruteCountsUptoSaid : Prop := bruteCountsUptoRow.holds Try.pinned (OpenSpec.upto bruteCountsSpec)

/-- 'replevinlaw22.BruteSplits', WHERE WHAT IT READS IS OF BULK AT MOST 1048576: true; the input reads as it did. -/
def bruteSplitsUptoRow : OpenClaim := { program := "ytdiapihfjmbgoaa", sum := "3c1e02d2f300a214ab33c6e2351a1b090e508d696e975b1c1be4ec9af84e8d4b", func := "replevin/replevinlaw22.BruteSplits", spec := "bruteSplits", unfollowed := true, recurses := true, apart := false, narrowed := true }
def BruteSplitsUptoSaid : Prop := bruteSplitsUptoRow.holds Try.pinned (OpenSpec.upto bruteSplitsSpec)

end Rows
end Go.Proofs.Ytdiapihfjmbgoaa
