/-
  No cell of these rows narrows 'for every input' (looked for: loops, veiled, ifaces, maps, wideKeys, modest, calm, conditions, laid).
  DERIVED. THE GIVEN ROWS OF THIS SEAT. 7 by the template 'for every input the law returns true; each argument reads behind the call as it read before'; 0 by the template 'total and deterministic' (their statements: YtnbodnihfkfmnaaTotals.lean).
  GIVEN WITH THE SEED: the statements are not yours to turn. If you find one false, say at which input.
  Laid BY PROGRAM, IN A SANDBOX (cutbox-rows.mjs): the forced cells as the released guide's own fill.sh prints them over the translation d45d47d235acfc5a… (all of the seat's roots in one cut). By AI agents, Wed Nov 11 2026. No macro, syntax, notation, axiom, sorry.
-/
import Derived.Test.YtnbodnihfkfmnaaChecked
import GoSem.Claim
import GoSem.ClaimJoined
import GoSem.ClaimMapViews
import Derived.JoinedTies
import Derived.KernelRfl
namespace Go.Proofs.Ytnbodnihfkfmnaa
/- THE CELL 'sum', in the pinned program and in every row, IS THE sha256 OF THE DUMP (.gsa) THAT YtnbodnihfkfmnaaProg.lean LOADS. Nothing in Lean hashes anything: it is a label: what it is worth is what the hold of that sum in a sandbox is worth. -/
noncomputable def Try.pinned : Pinned := { name := "ytnbodnihfkfmnaa", sum := "d45d47d235acfc5a9a5a70adb79ccf6d7e939cfecb19ff626ff57dbcffae11ba", checked := Try.checked }
namespace Rows
def none {H : Type} : Left H := { results := [], args := [] }

/-- 'replevinlaw01.LitTells': WHATEVER THE INPUT: true; the input reads as it did. -/
def litTellsSpec : ChangeSpec := { name := "litTells", fn := fun _ => fun
  | [d1, d2, d3] => { results := [.lit (.bool true)], args := [d1, d2, d3] }
  | _ => none }
def litTellsRow : OpenClaim := { program := "ytnbodnihfkfmnaa", sum := "d45d47d235acfc5a9a5a70adb79ccf6d7e939cfecb19ff626ff57dbcffae11ba", func := "replevin/replevinlaw01.LitTells", spec := "litTells", unfollowed := true, recurses := true, apart := false }
def LitTellsSaid : Prop := litTellsRow.holds Try.pinned (OpenSpec.ofChange litTellsSpec)

/-- ITS FALSE NEIGHBOUR: 'it returns false'. Refute it at one input. -/
def litTellsWrong : ChangeSpec := { name := "litTells", fn := fun _ => fun
  | [d1, d2, d3] => { results := [.lit (.bool false)], args := [d1, d2, d3] }
  | _ => none }
def LitTellsWrongFalsely : Prop := litTellsRow.holds Try.pinned (OpenSpec.ofChange litTellsWrong)

/-- 'replevinlaw01.LitLists': WHATEVER THE INPUT: true; the input reads as it did. -/
def litListsSpec : ChangeSpec := { name := "litLists", fn := fun _ => fun
  | [d1, d2] => { results := [.lit (.bool true)], args := [d1, d2] }
  | _ => none }
def litListsRow : OpenClaim := { program := "ytnbodnihfkfmnaa", sum := "d45d47d235acfc5a9a5a70adb79ccf6d7e939cfecb19ff626ff57dbcffae11ba", func := "replevin/replevinlaw01.LitLists", spec := "litLists", unfollowed := true, recurses := true, apart := false }
def LitListsSaid : Prop := litListsRow.holds Try.pinned (OpenSpec.ofChange litListsSpec)

/-- ITS FALSE NEIGHBOUR: 'it returns false'. Refute it at one input. -/
def litListsWrong : ChangeSpec := { name := "litLists", fn := fun _ => fun
  | [d1, d2] => { results := [.lit (.bool false)], args := [d1, d2] }
  | _ => none }
def LitListsWrongFalsely : Prop := litListsRow.holds Try.pinned (OpenSpec.ofChange litListsWrong)

/-- 'replevinlaw01.LitBack': WHATEVER THE INPUT: true; the input reads as it did. -/
def litBackSpec : ChangeSpec := { name := "litBack", fn := fun _ => fun
  | [d1, d2] => { results := [.lit (.bool true)], args := [d1, d2] }
  | _ => none }
def litBackRow : OpenClaim := { program := "ytnbodnihfkfmnaa", sum := "d45d47d235acfc5a9a5a70adb79ccf6d7e939cfecb19ff626ff57dbcffae11ba", func := "replevin/replevinlaw01.LitBack", spec := "litBack", unfollowed := true, recurses := true, apart := false }
def LitBackSaid : Prop := litBackRow.holds Try.pinned (OpenSpec.ofChange litBackSpec)

/-- ITS FALSE NEIGHBOUR: 'it returns false'. Refute it at one input. -/
def litBackWrong : ChangeSpec := { name := "litBack", fn := fun _ => fun
  | [d1, d2] => { results := [.lit (.bool false)], args := [d1, d2] }
  | _ => none }
def LitBackWrongFalsely : Prop := litBackRow.holds Try.pinned (OpenSpec.ofChange litBackWrong)

/-- 'replevinlaw01.LitNeg': WHATEVER THE INPUT: true; the input reads as it did. -/
def litNegSpec : ChangeSpec := { name := "litNeg", fn := fun _ => fun
  | [d1, d2] => { results := [.lit (.bool true)], args := [d1, d2] }
  | _ => none }
def litNegRow : OpenClaim := { program := "ytnbodnihfkfmnaa", sum := "d45d47d235acfc5a9a5a70adb79ccf6d7e939cfecb19ff626ff57dbcffae11ba", func := "replevin/replevinlaw01.LitNeg", spec := "litNeg", unfollowed := true, recurses := true, apart := false }
def LitNegSaid : Prop := litNegRow.holds Try.pinned (OpenSpec.ofChange litNegSpec)

/-- ITS FALSE NEIGHBOUR: 'it returns false'. Refute it at one input. -/
def litNegWrong : ChangeSpec := { name := "litNeg", fn := fun _ => fun
  | [d1, d2] => { results := [.lit (.bool false)], args := [d1, d2] }
  | _ => none }
def LitNegWrongFalsely : Prop := litNegRow.holds Try.pinned (OpenSpec.ofChange litNegWrong)

/-- 'replevinlaw18.LubyTells': WHATEVER THE INPUT: true; the input reads as it did. -/
def lubyTellsSpec : ChangeSpec := { name := "lubyTells", fn := fun _ => fun
  | [d1, d2, d3] => { results := [.lit (.bool true)], args := [d1, d2, d3] }
  | _ => none }
def lubyTellsRow : OpenClaim := { program := "ytnbodnihfkfmnaa", sum := "d45d47d235acfc5a9a5a70adb79ccf6d7e939cfecb19ff626ff57dbcffae11ba", func := "replevin/replevinlaw18.LubyTells", spec := "lubyTells", unfollowed := true, recurses := true, apart := false }
def LubyTellsSaid : Prop := lubyTellsRow.holds Try.pinned (OpenSpec.ofChange lubyTellsSpec)

/-- ITS FALSE NEIGHBOUR: 'it returns false'. Refute it at one input. -/
def lubyTellsWrong : ChangeSpec := { name := "lubyTells", fn := fun _ => fun
  | [d1, d2, d3] => { results := [.lit (.bool false)], args := [d1, d2, d3] }
  | _ => none }
def LubyTellsWrongFalsely : Prop := lubyTellsRow.holds Try.pinned (OpenSpec.ofChange lubyTellsWrong)

/-- 'replevinlaw18.LubyTwice': WHATEVER THE INPUT: true; the input reads as it did. -/
def lubyTwiceSpec : ChangeSpec := { name := "lubyTwice", fn := fun _ => fun
  | [d] => { results := [.lit (.bool true)], args := [d] }
  | _ => none }
def lubyTwiceRow : OpenClaim := { program := "ytnbodnihfkfmnaa", sum := "d45d47d235acfc5a9a5a70adb79ccf6d7e939cfecb19ff626ff57dbcffae11ba", func := "replevin/replevinlaw18.LubyTwice", spec := "lubyTwice", unfollowed := true, recurses := true, apart := false }
def LubyTwiceSaid : Prop := lubyTwiceRow.holds Try.pinned (OpenSpec.ofChange lubyTwiceSpec)

/-- ITS FALSE NEIGHBOUR: 'it returns false'. Refute it at one input. -/
def lubyTwiceWrong : ChangeSpec := { name := "lubyTwice", fn := fun _ => fun
  | [d] => { results := [.lit (.bool false)], args := [d] }
  | _ => none }
def LubyTwiceWrongFalsely : Prop := lubyTwiceRow.holds Try.pinned (OpenSpec.ofChange lubyTwiceWrong)

/-- 'replevinlaw18.LubyPowers': WHATEVER THE INPUT: true; the input reads as it did. -/
def lubyPowersSpec : ChangeSpec := { name := "lubyPowers", fn := fun _ => fun
  | [d1, d2] => { results := [.lit (.bool true)], args := [d1, d2] }
  | _ => none }
def lubyPowersRow : OpenClaim := { program := "ytnbodnihfkfmnaa", sum := "d45d47d235acfc5a9a5a70adb79ccf6d7e939cfecb19ff626ff57dbcffae11ba", func := "replevin/replevinlaw18.LubyPowers", spec := "lubyPowers", unfollowed := true, recurses := true, apart := false }
def LubyPowersSaid : Prop := lubyPowersRow.holds Try.pinned (OpenSpec.ofChange lubyPowersSpec)

/-- ITS FALSE NEIGHBOUR: 'it returns false'. Refute it at one input. -/
def lubyPowersWrong : ChangeSpec := { name := "lubyPowers", fn := fun _ => fun
  | [d1, d2] => { results := [.lit (.bool false)], args := [d1, d2] }
  | _ => none }
def LubyPowersWrongFalsely : Prop := lubyPowersRow.holds Try.pinned (OpenSpec.ofChange lubyPowersWrong)

/- THE SECOND FORM. 'bulk': how many values and letters a reading holds, each counted each time it is reached (what is shared counts as often as it is met; a slice's spare places count too). A statement '..UptoSaid' is the law's where the arguments, and the package variables that the reading takes, are together of bulk at most 1048576: NARROWER than '..Said'. Prove '..Said' where nothing that the law and all that it calls make is longer than what came in: it says more and counts as full. Else prove '..UptoSaid'. A law counts once. -/
mutual
def uptoBulk {H : Type} : DataW H → Nat
  | .lit (.string bytes) => bytes.length + 1
  | .lit _ => 1
  | .nil => 1
  | .ptr d => uptoBulk d + 1
  | .slice elems spare => uptoBulkAll elems + uptoBulkAll spare + 1
  | .agg parts => uptoBulkAll parts + 1
  | .iface _ d => uptoBulk d + 1
  | .map entries => uptoBulkEntries entries + 1
  | .held _ => 1
def uptoBulkAll {H : Type} : List (DataW H) → Nat
  | [] => 0
  | d :: r => uptoBulk d + uptoBulkAll r
def uptoBulkEntries {H : Type} : List (Lit × DataW H) → Nat
  | [] => 0
  | x :: r => uptoBulkEntry x + uptoBulkEntries r
def uptoBulkEntry {H : Type} : Lit × DataW H → Nat
  | (.string bytes, d) => bytes.length + uptoBulk d + 1
  | (_, d) => uptoBulk d + 1
 end
def uptoSmall : (H : Type) → List (DataW H) → Bool := fun _ ds => decide (uptoBulkAll ds ≤ 1048576)
def OpenSpec.upto (s : _root_.Go.ChangeSpec) : _root_.Go.OpenSpec := { _root_.Go.OpenSpec.ofChange s with cond := some uptoSmall }

/-- 'replevinlaw01.LitTells', WHERE WHAT IT READS IS OF BULK AT MOST 1048576: true; the input reads as it did. -/
def litTellsUptoRow : OpenClaim := { program := "ytnbodnihfkfmnaa", sum := "d45d47d235acfc5a9a5a70adb79ccf6d7e939cfecb19ff626ff57dbcffae11ba", func := "replevin/replevinlaw01.LitTells", spec := "litTells", unfollowed := true, recurses := true, apart := false, narrowed := true }
def LitTellsUptoSaid : Prop := litTellsUptoRow.holds Try.pinned (OpenSpec.upto litTellsSpec)

/-- 'replevinlaw01.LitLists', WHERE WHAT IT READS IS OF BULK AT MOST 1048576: true; the input reads as it did. -/
def litListsUptoRow : OpenClaim := { program := "ytnbodnihfkfmnaa", sum := "d45d47d235acfc5a9a5a70adb79ccf6d7e939cfecb19ff626ff57dbcffae11ba", func := "replevin/replevinlaw01.LitLists", spec := "litLists", unfollowed := true, recurses := true, apart := false, narrowed := true }
def LitListsUptoSaid : Prop := litListsUptoRow.holds Try.pinned (OpenSpec.upto litListsSpec)

/-- 'replevinlaw01.LitBack', WHERE WHAT IT READS IS OF BULK AT MOST 1048576: true; the input reads as it did. -/
def litBackUptoRow : OpenClaim := { program := "ytnbodnihfkfmnaa", sum := "d45d47d235acfc5a9a5a70adb79ccf6d7e939cfecb19ff626ff57dbcffae11ba", func := "replevin/replevinlaw01.LitBack", spec := "litBack", unfollowed := true, recurses := true, apart := false, narrowed := true }
def LitBackUptoSaid : Prop := litBackUptoRow.holds Try.pinned (OpenSpec.upto litBackSpec)

/-- 'replevinlaw01.LitNeg', WHERE WHAT IT READS IS OF BULK AT MOST 1048576: true; the input reads as it did. -/
def litNegUptoRow : OpenClaim := { program := "ytnbodnihfkfmnaa", sum := "d45d47d235acfc5a9a5a70adb79ccf6d7e939cfecb19ff626ff57dbcffae11ba", func := "replevin/replevinlaw01.LitNeg", spec := "litNeg", unfollowed := true, recurses := true, apart := false, narrowed := true }
def LitNegUptoSaid : Prop := litNegUptoRow.holds Try.pinned (OpenSpec.upto litNegSpec)

/-- 'replevinlaw18.LubyTells', WHERE WHAT IT READS IS OF BULK AT MOST 1048576: true; the input reads as it did. -/
def lubyTellsUptoRow : OpenClaim := { program := "ytnbodnihfkfmnaa", sum := "d45d47d235acfc5a9a5a70adb79ccf6d7e939cfecb19ff626ff57dbcffae11ba", func := "replevin/replevinlaw18.LubyTells", spec := "lubyTells", unfollowed := true, recurses := true, apart := false, narrowed := true }
def LubyTellsUptoSaid : Prop := lubyTellsUptoRow.holds Try.pinned (OpenSpec.upto lubyTellsSpec)

/-- 'replevinlaw18.LubyTwice', WHERE WHAT IT READS IS OF BULK AT MOST 1048576: true; the input reads as it did. -/
def lubyTwiceUptoRow : OpenClaim := { program := "ytnbodnihfkfmnaa", sum := "d45d47d235acfc5a9a5a70adb79ccf6d7e939cfecb19ff626ff57dbcffae11ba", func := "replevin/replevinlaw18.LubyTwice", spec := "lubyTwice", unfollowed := true, recurses := true, apart := false, narrowed := true }
def LubyTwiceUptoSaid : Prop := lubyTwiceUptoRow.holds Try.pinned (OpenSpec.upto lubyTwiceSpec)

/-- 'replevinlaw18.LubyPowers', WHERE WHAT IT READS IS OF BULK AT MOST 1048576: true; the input reads as it did. -/
def lubyPowersUptoRow : OpenClaim := { program := "ytnbodnihfkfmnaa", sum := "d45d47d235acfc5a9a5a70adb79ccf6d7e939cfecb19ff626ff57dbcffae11ba", func := "replevin/replevinlaw18.LubyPowers", spec := "lubyPowers", unfollowed := true, recurses := true, apart := false, narrowed := true }
def LubyPowersUptoSaid : Prop := lubyPowersUptoRow.holds Try.pinned (OpenSpec.upto lubyPowersSpec)

end Rows
end Go.Proofs.Ytnbodnihfkfmnaa
