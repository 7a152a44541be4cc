/-
  No cell of these rows narrows 'for every input' (looked for: loops, veiled, ifaces, maps, wideKeys, modest, calm, conditions, laid).
  DERIVED. THE GIVEN ROWS OF THIS SEAT. 3 by the template 'for every input the law returns true; each argument reads behind the call as it read before'; 0 by the template 'total and deterministic' (their statements: YteceghhjpejdnaaTotals.lean).
  GIVEN WITH THE SEED: the statements are not yours to turn. If you find one false, say at which input.
  Laid BY PROGRAM, IN A SANDBOX (cutbox-rows.mjs): the forced cells as the released guide's own fill.sh prints them over the translation 6b15e06e2b0e149a… (all of the seat's roots in one cut). By AI agents, Wed Nov 11 2026. No macro, syntax, notation, axiom, sorry.
-/
import Derived.Test.YteceghhjpejdnaaChecked
import GoSem.Claim
import GoSem.ClaimJoined
import GoSem.ClaimMapViews
import Derived.JoinedTies
import Derived.KernelRfl
namespace Go.Proofs.Yteceghhjpejdnaa
/- THE CELL 'sum', in the pinned program and in every row, IS THE sha256 OF THE DUMP (.gsa) THAT YteceghhjpejdnaaProg.lean LOADS. Nothing in Lean hashes anything: it is a label: what it is worth is what the hold of that sum in a sandbox is worth. -/
noncomputable def Try.pinned : Pinned := { name := "yteceghhjpejdnaa", sum := "6b15e06e2b0e149a7de1660c66a942545e1548b225cf3118da822f57b4218901", checked := Try.checked }
namespace Rows
def none {H : Type} : Left H := { results := [], args := [] }

/-- 'alidadelaw32.SessionBudget': WHATEVER THE INPUT: true; the input reads as it did. -/
def sessionBudgetSpec : ChangeSpec := { name := "sessionBudget", fn := fun _ => fun
  | [d1, d2] => { results := [.lit (.bool true)], args := [d1, d2] }
  | _ => none }
def sessionBudgetRow : OpenClaim := { program := "yteceghhjpejdnaa", sum := "6b15e06e2b0e149a7de1660c66a942545e1548b225cf3118da822f57b4218901", func := "alidade/alidadelaw32.SessionBudget", spec := "sessionBudget", unfollowed := true, recurses := true, apart := false }
def SessionBudgetSaid : Prop := sessionBudgetRow.holds Try.pinned (OpenSpec.ofChange sessionBudgetSpec)

/-- ITS FALSE NEIGHBOUR: 'it returns false'. Refute it at one input. -/
def sessionBudgetWrong : ChangeSpec := { name := "sessionBudget", fn := fun _ => fun
  | [d1, d2] => { results := [.lit (.bool false)], args := [d1, d2] }
  | _ => none }
def SessionBudgetWrongFalsely : Prop := sessionBudgetRow.holds Try.pinned (OpenSpec.ofChange sessionBudgetWrong)

/-- 'alidadelaw32.SessionMoves': WHATEVER THE INPUT: true; the input reads as it did. -/
def sessionMovesSpec : ChangeSpec := { name := "sessionMoves", fn := fun _ => fun
  | [d] => { results := [.lit (.bool true)], args := [d] }
  | _ => none }
def sessionMovesRow : OpenClaim := { program := "yteceghhjpejdnaa", sum := "6b15e06e2b0e149a7de1660c66a942545e1548b225cf3118da822f57b4218901", func := "alidade/alidadelaw32.SessionMoves", spec := "sessionMoves", unfollowed := true, recurses := true, apart := false }
def SessionMovesSaid : Prop := sessionMovesRow.holds Try.pinned (OpenSpec.ofChange sessionMovesSpec)

/-- ITS FALSE NEIGHBOUR: 'it returns false'. Refute it at one input. -/
def sessionMovesWrong : ChangeSpec := { name := "sessionMoves", fn := fun _ => fun
  | [d] => { results := [.lit (.bool false)], args := [d] }
  | _ => none }
def SessionMovesWrongFalsely : Prop := sessionMovesRow.holds Try.pinned (OpenSpec.ofChange sessionMovesWrong)

/-- 'alidadelaw32.SessionPlays': WHATEVER THE INPUT: true; the input reads as it did. -/
def sessionPlaysSpec : ChangeSpec := { name := "sessionPlays", fn := fun _ => fun
  | [d1, d2] => { results := [.lit (.bool true)], args := [d1, d2] }
  | _ => none }
def sessionPlaysRow : OpenClaim := { program := "yteceghhjpejdnaa", sum := "6b15e06e2b0e149a7de1660c66a942545e1548b225cf3118da822f57b4218901", func := "alidade/alidadelaw32.SessionPlays", spec := "sessionPlays", unfollowed := true, recurses := true, apart := false }
def SessionPlaysSaid : Prop := sessionPlaysRow.holds Try.pinned (OpenSpec.ofChange sessionPlaysSpec)

/-- ITS FALSE NEIGHBOUR: 'it returns false'. Refute it at one input. -/
def sessionPlaysWrong : ChangeSpec := { name := "sessionPlays", fn := fun _ => fun
  | [d1, d2] => { results := [.lit (.bool false)], args := [d1, d2] }
  | _ => none }
def SessionPlaysWrongFalsely : Prop := sessionPlaysRow.holds Try.pinned (OpenSpec.ofChange sessionPlaysWrong)

/- THE SECOND FORM. 'bulk': how many values and letters a reading holds, each counted each time it is reached (what is shared counts as often as it is met; a slice's spare places count too). A statement '..UptoSaid' is the law's where the arguments, and the package variables that the reading takes, are together of bulk at most 1048576: NARROWER than '..Said'. Prove '..Said' where nothing that the law and all that it calls make is longer than what came in: it says more and counts as full. Else prove '..UptoSaid'. A law counts once. -/
mutual
def uptoBulk {H : Type} : DataW H → Nat
  | .lit (.string bytes) => bytes.length + 1
  | .lit _ => 1
  | .nil => 1
  | .ptr d => uptoBulk d + 1
  | .slice elems spare => uptoBulkAll elems + uptoBulkAll spare + 1
  | .agg parts => uptoBulkAll parts + 1
  | .iface _ d => uptoBulk d + 1
  | .map entries => uptoBulkEntries entries + 1
  | .held _ => 1
def uptoBulkAll {H : Type} : List (DataW H) → Nat
  | [] => 0
  | d :: r => uptoBulk d + uptoBulkAll r
def uptoBulkEntries {H : Type} : List (Lit × DataW H) → Nat
  | [] => 0
  | x :: r => uptoBulkEntry x + uptoBulkEntries r
def uptoBulkEntry {H : Type} : Lit × DataW H → Nat
  | (.string bytes, d) => bytes.length + uptoBulk d + 1
  | (_, d) => uptoBulk d + 1
 end
def uptoSmall : (H : Type) → List (DataW H) → Bool := fun _ ds => decide (uptoBulkAll ds ≤ 1048576)
def OpenSpec.upto (s : _root_.Go.ChangeSpec) : _root_.Go.OpenSpec := { _root_.Go.OpenSpec.ofChange s with cond := some uptoSmall }

/-- 'alidadelaw32.SessionBudget', WHERE WHAT IT READS IS OF BULK AT MOST 1048576: true; the input reads as it did. -/
def sessionBudgetUptoRow : OpenClaim := { program := "yteceghhjpejdnaa", sum := "6b15e06e2b0e149a7de1660c66a942545e1548b225cf3118da822f57b4218901", func := "alidade/alidadelaw32.SessionBudget", spec := "sessionBudget", unfollowed := true, recurses := true, apart := false, narrowed := true }
def SessionBudgetUptoSaid : Prop := sessionBudgetUptoRow.holds Try.pinned (OpenSpec.upto sessionBudgetSpec)

/-- 'alidadelaw32.SessionMoves', WHERE WHAT IT READS IS OF BULK AT MOST 1048576: true; the input reads as it did. -/
def sessionMovesUptoRow : OpenClaim := { program := "yteceghhjpejdnaa", sum := "6b15e06e2b0e149a7de1660c66a942545e1548b225cf3118da822f57b4218901", func := "alidade/alidadelaw32.SessionMoves", spec := "sessionMoves", unfollowed := true, recurses := true, apart := false, narrowed := true }
def SessionMovesUptoSaid : Prop := sessionMovesUptoRow.holds Try.pinned (OpenSpec.upto sessionMovesSpec)

/-- 'alidadelaw32.SessionPlays', WHERE WHAT IT READS IS OF BULK AT MOST 1048576: true; the input reads as it did. -/
def sessionPlaysUptoRow : OpenClaim := { program := "yteceghhjpejdnaa", sum := "6b15e06e2b0e149a7de1660c66a942545e1548b225cf3118da822f57b4218901", func := "alidade/alidadelaw32.SessionPlays", spec := "sessionPlays", unfollowed := true, recurses := true, apart := false, narrowed := true }
def SessionPlaysUptoSaid : Prop := sessionPlaysUptoRow.holds Try.pinned (OpenSpec.upto sessionPlaysSpec)

end Rows
end Go.Proofs.Yteceghhjpejdnaa
