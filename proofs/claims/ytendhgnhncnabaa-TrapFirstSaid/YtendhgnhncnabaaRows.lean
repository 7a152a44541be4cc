/-
  No cell of these rows narrows 'for every input' (looked for: loops, veiled, ifaces, maps, wideKeys, modest, calm, conditions, laid).
  DERIVED. THE GIVEN ROWS OF THIS SEAT. 5 by the template 'for every input the law returns true; each argument reads behind the call as it read before'; 0 by the template 'total and deterministic' (their statements: YtendhgnhncnabaaTotals.lean).
  GIVEN WITH THE SEED: the statements are not yours to turn. If you find one false, say at which input.
  Laid BY PROGRAM, IN A SANDBOX (cutbox-rows.mjs): the forced cells as the released guide's own fill.sh prints them over the translation 23d65fb7f527ad8e… (all of the seat's roots in one cut). By AI agents, Wed Nov 11 2026. No macro, syntax, notation, axiom, sorry.
-/
import Derived.Test.YtendhgnhncnabaaChecked
import GoSem.Claim
import GoSem.ClaimJoined
import GoSem.ClaimMapViews
import Derived.JoinedTies
import Derived.KernelRfl
namespace Go.Proofs.Ytendhgnhncnabaa
/- THE CELL 'sum', in the pinned program and in every row, IS THE sha256 OF THE DUMP (.gsa) THAT YtendhgnhncnabaaProg.lean LOADS. Nothing in Lean hashes anything: it is a label: what it is worth is what the hold of that sum in a sandbox is worth. -/
noncomputable def Try.pinned : Pinned := { name := "ytendhgnhncnabaa", sum := "23d65fb7f527ad8eba11e38d293637fa17630b044a52a366453929f7b7a23445", checked := Try.checked }
namespace Rows
def none {H : Type} : Left H := { results := [], args := [] }

/-- 'alidadelaw05.TrapCatches': WHATEVER THE INPUT: true; the input reads as it did. -/
def trapCatchesSpec : ChangeSpec := { name := "trapCatches", fn := fun _ => fun
  | [d] => { results := [.lit (.bool true)], args := [d] }
  | _ => none }
def trapCatchesRow : OpenClaim := { program := "ytendhgnhncnabaa", sum := "23d65fb7f527ad8eba11e38d293637fa17630b044a52a366453929f7b7a23445", func := "alidade/alidadelaw05.TrapCatches", spec := "trapCatches", unfollowed := true, recurses := true, apart := false }
def TrapCatchesSaid : Prop := trapCatchesRow.holds Try.pinned (OpenSpec.ofChange trapCatchesSpec)

/-- ITS FALSE NEIGHBOUR: 'it returns false'. Refute it at one input. -/
def trapCatchesWrong : ChangeSpec := { name := "trapCatches", fn := fun _ => fun
  | [d] => { results := [.lit (.bool false)], args := [d] }
  | _ => none }
def TrapCatchesWrongFalsely : Prop := trapCatchesRow.holds Try.pinned (OpenSpec.ofChange trapCatchesWrong)

/-- 'alidadelaw05.TrapInner': WHATEVER THE INPUT: true; the input reads as it did. -/
def trapInnerSpec : ChangeSpec := { name := "trapInner", fn := fun _ => fun
  | [d] => { results := [.lit (.bool true)], args := [d] }
  | _ => none }
def trapInnerRow : OpenClaim := { program := "ytendhgnhncnabaa", sum := "23d65fb7f527ad8eba11e38d293637fa17630b044a52a366453929f7b7a23445", func := "alidade/alidadelaw05.TrapInner", spec := "trapInner", unfollowed := true, recurses := true, apart := false }
def TrapInnerSaid : Prop := trapInnerRow.holds Try.pinned (OpenSpec.ofChange trapInnerSpec)

/-- ITS FALSE NEIGHBOUR: 'it returns false'. Refute it at one input. -/
def trapInnerWrong : ChangeSpec := { name := "trapInner", fn := fun _ => fun
  | [d] => { results := [.lit (.bool false)], args := [d] }
  | _ => none }
def TrapInnerWrongFalsely : Prop := trapInnerRow.holds Try.pinned (OpenSpec.ofChange trapInnerWrong)

/-- 'alidadelaw05.TrapMust': WHATEVER THE INPUT: true; the input reads as it did. -/
def trapMustSpec : ChangeSpec := { name := "trapMust", fn := fun _ => fun
  | [d1, d2, d3] => { results := [.lit (.bool true)], args := [d1, d2, d3] }
  | _ => none }
def trapMustRow : OpenClaim := { program := "ytendhgnhncnabaa", sum := "23d65fb7f527ad8eba11e38d293637fa17630b044a52a366453929f7b7a23445", func := "alidade/alidadelaw05.TrapMust", spec := "trapMust", unfollowed := true, recurses := true, apart := false }
def TrapMustSaid : Prop := trapMustRow.holds Try.pinned (OpenSpec.ofChange trapMustSpec)

/-- ITS FALSE NEIGHBOUR: 'it returns false'. Refute it at one input. -/
def trapMustWrong : ChangeSpec := { name := "trapMust", fn := fun _ => fun
  | [d1, d2, d3] => { results := [.lit (.bool false)], args := [d1, d2, d3] }
  | _ => none }
def TrapMustWrongFalsely : Prop := trapMustRow.holds Try.pinned (OpenSpec.ofChange trapMustWrong)

/-- 'alidadelaw05.TrapCodes': WHATEVER THE INPUT: true; the input reads as it did. -/
def trapCodesSpec : ChangeSpec := { name := "trapCodes", fn := fun _ => fun
  | [d1, d2] => { results := [.lit (.bool true)], args := [d1, d2] }
  | _ => none }
def trapCodesRow : OpenClaim := { program := "ytendhgnhncnabaa", sum := "23d65fb7f527ad8eba11e38d293637fa17630b044a52a366453929f7b7a23445", func := "alidade/alidadelaw05.TrapCodes", spec := "trapCodes", unfollowed := true, recurses := true, apart := false }
def TrapCodesSaid : Prop := trapCodesRow.holds Try.pinned (OpenSpec.ofChange trapCodesSpec)

/-- ITS FALSE NEIGHBOUR: 'it returns false'. Refute it at one input. -/
def trapCodesWrong : ChangeSpec := { name := "trapCodes", fn := fun _ => fun
  | [d1, d2] => { results := [.lit (.bool false)], args := [d1, d2] }
  | _ => none }
def TrapCodesWrongFalsely : Prop := trapCodesRow.holds Try.pinned (OpenSpec.ofChange trapCodesWrong)

/-- 'alidadelaw05.TrapFirst': WHATEVER THE INPUT: true; the input reads as it did. -/
def trapFirstSpec : ChangeSpec := { name := "trapFirst", fn := fun _ => fun
  | [d1, d2, d3] => { results := [.lit (.bool true)], args := [d1, d2, d3] }
  | _ => none }
def trapFirstRow : OpenClaim := { program := "ytendhgnhncnabaa", sum := "23d65fb7f527ad8eba11e38d293637fa17630b044a52a366453929f7b7a23445", func := "alidade/alidadelaw05.TrapFirst", spec := "trapFirst", unfollowed := true, recurses := true, apart := false }
def TrapFirstSaid : Prop := trapFirstRow.holds Try.pinned (OpenSpec.ofChange trapFirstSpec)

/-- ITS FALSE NEIGHBOUR: 'it returns false'. Refute it at one input. -/
def trapFirstWrong : ChangeSpec := { name := "trapFirst", fn := fun _ => fun
  | [d1, d2, d3] => { results := [.lit (.bool false)], args := [d1, d2, d3] }
  | _ => none }
def TrapFirstWrongFalsely : Prop := trapFirstRow.holds Try.pinned (OpenSpec.ofChange trapFirstWrong)

/- THE SECOND FORM. 'bulk': how many values and letters a reading holds, each counted each time it is reached (what is shared counts as often as it is met; a slice's spare places count too). A statement '..UptoSaid' is the law's where the arguments, and the package variables that the reading takes, are together of bulk at most 1048576: NARROWER than '..Said'. Prove '..Said' where nothing that the law and all that it calls make is longer than what came in: it says more and counts as full. Else prove '..UptoSaid'. A law counts once. -/
mutual
def uptoBulk {H : Type} : DataW H → Nat
  | .lit (.string bytes) => bytes.length + 1
  | .lit _ => 1
  | .nil => 1
  | .ptr d => uptoBulk d + 1
  | .slice elems spare => uptoBulkAll elems + uptoBulkAll spare + 1
  | .agg parts => uptoBulkAll parts + 1
  | .iface _ d => uptoBulk d + 1
  | .map entries => uptoBulkEntries entries + 1
  | .held _ => 1
def uptoBulkAll {H : Type} : List (DataW H) → Nat
  | [] => 0
  | d :: r => uptoBulk d + uptoBulkAll r
def uptoBulkEntries {H : Type} : List (Lit × DataW H) → Nat
  | [] => 0
  | x :: r => uptoBulkEntry x + uptoBulkEntries r
def uptoBulkEntry {H : Type} : Lit × DataW H → Nat
  | (.string bytes, d) => bytes.length + uptoBulk d + 1
  | (_, d) => uptoBulk d + 1
 end
def uptoSmall : (H : Type) → List (DataW H) → Bool := fun _ ds => decide (uptoBulkAll ds ≤ 1048576)
def OpenSpec.upto (s : _root_.Go.ChangeSpec) : _root_.Go.OpenSpec := { _root_.Go.OpenSpec.ofChange s with cond := some uptoSmall }

/-- 'alidadelaw05.TrapCatches', WHERE WHAT IT READS IS OF BULK AT MOST 1048576: true; the input reads as it did. -/
def trapCatchesUptoRow : OpenClaim := { program := "ytendhgnhncnabaa", sum := "23d65fb7f527ad8eba11e38d293637fa17630b044a52a366453929f7b7a23445", func := "alidade/alidadelaw05.TrapCatches", spec := "trapCatches", unfollowed := true, recurses := true, apart := false, narrowed := true }
def TrapCatchesUptoSaid : Prop := trapCatchesUptoRow.holds Try.pinned (OpenSpec.upto trapCatchesSpec)

/-- 'alidadelaw05.TrapInner', WHERE WHAT IT READS IS OF BULK AT MOST 1048576: true; the input reads as it did. -/
def trapInnerUptoRow : OpenClaim := { program := "ytendhgnhncnabaa", sum := "23d65fb7f527ad8eba11e38d293637fa17630b044a52a366453929f7b7a23445", func := "alidade/alidadelaw05.TrapInner", spec := "trapInner", unfollowed := true, recurses := true, apart := false, narrowed := true }
def TrapInnerUptoSaid : Prop := trapInnerUptoRow.holds Try.pinned (OpenSpec.upto trapInnerSpec)

/-- 'alidadelaw05.TrapMust', WHERE WHAT IT READS IS OF BULK AT MOST 1048576: true; the input reads as it did. -/
def trapMustUptoRow : OpenClaim := { program := "ytendhgnhncnabaa", sum := "23d65fb7f527ad8eba11e38d293637fa17630b044a52a366453929f7b7a23445", func := "alidade/alidadelaw05.TrapMust", spec := "trapMust", unfollowed := true, recurses := true, apart := false, narrowed := true }
def TrapMustUptoSaid : Prop := trapMustUptoRow.holds Try.pinned (OpenSpec.upto trapMustSpec)

/-- 'alidadelaw05.TrapCodes', WHERE WHAT IT READS IS OF BULK AT MOST 1048576: true; the input reads as it did. -/
def trapCodesUptoRow : OpenClaim := { program := "ytendhgnhncnabaa", sum := "23d65fb7f527ad8eba11e38d293637fa17630b044a52a366453929f7b7a23445", func := "alidade/alidadelaw05.TrapCodes", spec := "trapCodes", unfollowed := true, recurses := true, apart := false, narrowed := true }
def TrapCodesUptoSaid : Prop := trapCodesUptoRow.holds Try.pinned (OpenSpec.upto trapCodesSpec)

/-- 'alidadelaw05.TrapFirst', WHERE WHAT IT READS IS OF BULK AT MOST 1048576: true; the input reads as it did. -/
def trapFirstUptoRow : OpenClaim := { program := "ytendhgnhncnabaa", sum := "23d65fb7f527ad8eba11e38d293637fa17630b044a52a366453929f7b7a23445", func := "alidade/alidadelaw05.TrapFirst", spec := "trapFirst", unfollowed := true, recurses := true, apart := false, narrowed := true }
def TrapFirstUptoSaid : Prop := trapFirstUptoRow.holds Try.pinned (OpenSpec.upto trapFirstSpec)

end Rows
end Go.Proofs.Ytendhgnhncnabaa
