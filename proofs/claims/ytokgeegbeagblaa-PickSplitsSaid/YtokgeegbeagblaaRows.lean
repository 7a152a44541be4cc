/-
  No cell of these rows narrows 'for every input' (looked for: loops, veiled, ifaces, maps, wideKeys, modest, calm, conditions, laid).
  DERIVED. THE GIVEN ROWS OF THIS SEAT. 4 by the template 'for every input the law returns true; each argument reads behind the call as it read before'; 0 by the template 'total and deterministic' (their statements: YtokgeegbeagblaaTotals.lean).
  GIVEN WITH THE SEED: the statements are not yours to turn. If you find one false, say at which input.
  Laid BY PROGRAM, IN A SANDBOX (cutbox-rows.mjs): the forced cells as the released guide's own fill.sh prints them over the translation ceca7b9d7cd812e8… (all of the seat's roots in one cut). By AI agents, Wed Nov 11 2026. No macro, syntax, notation, axiom, sorry.
-/
import Derived.Test.YtokgeegbeagblaaChecked
import GoSem.Claim
import GoSem.ClaimJoined
import GoSem.ClaimMapViews
import Derived.JoinedTies
import Derived.KernelRfl
namespace Go.Proofs.Ytokgeegbeagblaa
/- THE CELL 'sum', in the pinned program and in every row, IS THE sha256 OF THE DUMP (.gsa) THAT YtokgeegbeagblaaProg.lean LOADS. Nothing in Lean hashes anything: it is a label: what it is worth is what the hold of that sum in a sandbox is worth. -/
noncomputable def Try.pinned : Pinned := { name := "ytokgeegbeagblaa", sum := "ceca7b9d7cd812e8c0907611ddcacdbeaac16747d4a1dd57c89a9b2dc30c0229", checked := Try.checked }
namespace Rows
def none {H : Type} : Left H := { results := [], args := [] }

/-- 'alidadelaw08.PickSteps': WHATEVER THE INPUT: true; the input reads as it did. -/
def pickStepsSpec : ChangeSpec := { name := "pickSteps", fn := fun _ => fun
  | [d1, d2, d3] => { results := [.lit (.bool true)], args := [d1, d2, d3] }
  | _ => none }
def pickStepsRow : OpenClaim := { program := "ytokgeegbeagblaa", sum := "ceca7b9d7cd812e8c0907611ddcacdbeaac16747d4a1dd57c89a9b2dc30c0229", func := "alidade/alidadelaw08.PickSteps", spec := "pickSteps", unfollowed := true, recurses := true, apart := false }
def PickStepsSaid : Prop := pickStepsRow.holds Try.pinned (OpenSpec.ofChange pickStepsSpec)

/-- ITS FALSE NEIGHBOUR: 'it returns false'. Refute it at one input. -/
def pickStepsWrong : ChangeSpec := { name := "pickSteps", fn := fun _ => fun
  | [d1, d2, d3] => { results := [.lit (.bool false)], args := [d1, d2, d3] }
  | _ => none }
def PickStepsWrongFalsely : Prop := pickStepsRow.holds Try.pinned (OpenSpec.ofChange pickStepsWrong)

/-- 'alidadelaw08.PickNths': WHATEVER THE INPUT: true; the input reads as it did. -/
def pickNthsSpec : ChangeSpec := { name := "pickNths", fn := fun _ => fun
  | [d1, d2] => { results := [.lit (.bool true)], args := [d1, d2] }
  | _ => none }
def pickNthsRow : OpenClaim := { program := "ytokgeegbeagblaa", sum := "ceca7b9d7cd812e8c0907611ddcacdbeaac16747d4a1dd57c89a9b2dc30c0229", func := "alidade/alidadelaw08.PickNths", spec := "pickNths", unfollowed := true, recurses := true, apart := false }
def PickNthsSaid : Prop := pickNthsRow.holds Try.pinned (OpenSpec.ofChange pickNthsSpec)

/-- ITS FALSE NEIGHBOUR: 'it returns false'. Refute it at one input. -/
def pickNthsWrong : ChangeSpec := { name := "pickNths", fn := fun _ => fun
  | [d1, d2] => { results := [.lit (.bool false)], args := [d1, d2] }
  | _ => none }
def PickNthsWrongFalsely : Prop := pickNthsRow.holds Try.pinned (OpenSpec.ofChange pickNthsWrong)

/-- 'alidadelaw08.PickParts': WHATEVER THE INPUT: true; the input reads as it did. -/
def pickPartsSpec : ChangeSpec := { name := "pickParts", fn := fun _ => fun
  | [d1, d2] => { results := [.lit (.bool true)], args := [d1, d2] }
  | _ => none }
def pickPartsRow : OpenClaim := { program := "ytokgeegbeagblaa", sum := "ceca7b9d7cd812e8c0907611ddcacdbeaac16747d4a1dd57c89a9b2dc30c0229", func := "alidade/alidadelaw08.PickParts", spec := "pickParts", unfollowed := true, recurses := true, apart := false }
def PickPartsSaid : Prop := pickPartsRow.holds Try.pinned (OpenSpec.ofChange pickPartsSpec)

/-- ITS FALSE NEIGHBOUR: 'it returns false'. Refute it at one input. -/
def pickPartsWrong : ChangeSpec := { name := "pickParts", fn := fun _ => fun
  | [d1, d2] => { results := [.lit (.bool false)], args := [d1, d2] }
  | _ => none }
def PickPartsWrongFalsely : Prop := pickPartsRow.holds Try.pinned (OpenSpec.ofChange pickPartsWrong)

/-- 'alidadelaw08.PickSplits': WHATEVER THE INPUT: true; the input reads as it did. -/
def pickSplitsSpec : ChangeSpec := { name := "pickSplits", fn := fun _ => fun
  | [d1, d2] => { results := [.lit (.bool true)], args := [d1, d2] }
  | _ => none }
def pickSplitsRow : OpenClaim := { program := "ytokgeegbeagblaa", sum := "ceca7b9d7cd812e8c0907611ddcacdbeaac16747d4a1dd57c89a9b2dc30c0229", func := "alidade/alidadelaw08.PickSplits", spec := "pickSplits", unfollowed := true, recurses := true, apart := false }
def PickSplitsSaid : Prop := pickSplitsRow.holds Try.pinned (OpenSpec.ofChange pickSplitsSpec)

/-- ITS FALSE NEIGHBOUR: 'it returns false'. Refute it at one input. -/
def pickSplitsWrong : ChangeSpec := { name := "pickSplits", fn := fun _ => fun
  | [d1, d2] => { results := [.lit (.bool false)], args := [d1, d2] }
  | _ => none }
def PickSplitsWrongFalsely : Prop := pickSplitsRow.holds Try.pinned (OpenSpec.ofChange pickSplitsWrong)

/- THE SECOND FORM. 'bulk': how many values and letters a reading holds, each counted each time it is reached (what is shared counts as often as it is met; a slice's spare places count too). A statement '..UptoSaid' is the law's where the arguments, and the package variables that the reading takes, are together of bulk at most 1048576: NARROWER than '..Said'. Prove '..Said' where nothing that the law and all that it calls make is longer than what came in: it says more and counts as full. Else prove '..UptoSaid'. A law counts once. -/
mutual
def uptoBulk {H : Type} : DataW H → Nat
  | .lit (.string bytes) => bytes.length + 1
  | .lit _ => 1
  | .nil => 1
  | .ptr d => uptoBulk d + 1
  | .slice elems spare => uptoBulkAll elems + uptoBulkAll spare + 1
  | .agg parts => uptoBulkAll parts + 1
  | .iface _ d => uptoBulk d + 1
  | .map entries => uptoBulkEntries entries + 1
  | .held _ => 1
def uptoBulkAll {H : Type} : List (DataW H) → Nat
  | [] => 0
  | d :: r => uptoBulk d + uptoBulkAll r
def uptoBulkEntries {H : Type} : List (Lit × DataW H) → Nat
  | [] => 0
  | x :: r => uptoBulkEntry x + uptoBulkEntries r
def uptoBulkEntry {H : Type} : Lit × DataW H → Nat
  | (.string bytes, d) => bytes.length + uptoBulk d + 1
  | (_, d) => uptoBulk d + 1
 end
def uptoSmall : (H : Type) → List (DataW H) → Bool := fun _ ds => decide (uptoBulkAll ds ≤ 1048576)
def OpenSpec.upto (s : _root_.Go.ChangeSpec) : _root_.Go.OpenSpec := { _root_.Go.OpenSpec.ofChange s with cond := some uptoSmall }

/-- 'alidadelaw08.PickSteps', WHERE WHAT IT READS IS OF BULK AT MOST 1048576: true; the input reads as it did. -/
def pickStepsUptoRow : OpenClaim := { program := "ytokgeegbeagblaa", sum := "ceca7b9d7cd812e8c0907611ddcacdbeaac16747d4a1dd57c89a9b2dc30c0229", func := "alidade/alidadelaw08.PickSteps", spec := "pickSteps", unfollowed := true, recurses := true, apart := false, narrowed := true }
def PickStepsUptoSaid : Prop := pickStepsUptoRow.holds Try.pinned (OpenSpec.upto pickStepsSpec)

/-- 'alidadelaw08.PickNths', WHERE WHAT IT READS IS OF BULK AT MOST 1048576: true; the input reads as it did. -/
def pickNthsUptoRow : OpenClaim := { program := "ytokgeegbeagblaa", sum := "ceca7b9d7cd812e8c0907611ddcacdbeaac16747d4a1dd57c89a9b2dc30c0229", func := "alidade/alidadelaw08.PickNths", spec := "pickNths", unfollowed := true, recurses := true, apart := false, narrowed := true }
def PickNthsUptoSaid : Prop := pickNthsUptoRow.holds Try.pinned (OpenSpec.upto pickNthsSpec)

/-- 'alidadelaw08.PickParts', WHERE WHAT IT READS IS OF BULK AT MOST 1048576: true; the input reads as it did. -/
def pickPartsUptoRow : OpenClaim := { program := "ytokgeegbeagblaa", sum := "ceca7b9d7cd812e8c0907611ddcacdbeaac16747d4a1dd57c89a9b2dc30c0229", func := "alidade/alidadelaw08.PickParts", spec := "pickParts", unfollowed := true, recurses := true, apart := false, narrowed := true }
def PickPartsUptoSaid : Prop := pickPartsUptoRow.holds Try.pinned (OpenSpec.upto pickPartsSpec)

/-- 'alidadelaw08.PickSplits', WHERE WHAT IT READS IS OF BULK AT MOST 1048576: true; the input reads as it did. -/
def pickSplitsUptoRow : OpenClaim := { program := "ytokgeegbeagblaa", sum := "ceca7b9d7cd812e8c0907611ddcacdbeaac16747d4a1dd57c89a9b2dc30c0229", func := "alidade/alidadelaw08.PickSplits", spec := "pickSplits", unfollowed := true, recurses := true, apart := false, narrowed := true }
def PickSplitsUptoSaid : Prop := pickSplitsUptoRow.holds Try.pinned (OpenSpec.upto pickSplitsSpec)

end Rows
end Go.Proofs.Ytokgeegbeagblaa
