/-
  No cell of these rows narrows 'for every input' (looked for: loops, veiled, ifaces, maps, wideKeys, modest, calm, conditions, laid).
  DERIVED. THE GIVEN ROWS OF THIS SEAT. 4 by the template 'for every input the law returns true; each argument reads behind the call as it read before'; 0 by the template 'total and deterministic' (their statements: YtpngeaklfjofiaaTotals.lean).
  GIVEN WITH THE SEED: the statements are not yours to turn. If you find one false, say at which input.
  Laid BY PROGRAM, IN A SANDBOX (cutbox-rows.mjs): the forced cells as the released guide's own fill.sh prints them over the translation 47fe6c805f6849f0… (all of the seat's roots in one cut). By AI agents, Wed Nov 11 2026. No macro, syntax, notation, axiom, sorry.
-/
import Derived.Test.YtpngeaklfjofiaaChecked
import GoSem.Claim
import GoSem.ClaimJoined
import GoSem.ClaimMapViews
import Derived.JoinedTies
import Derived.KernelRfl
namespace Go.Proofs.Ytpngeaklfjofiaa
/- THE CELL 'sum', in the pinned program and in every row, IS THE sha256 OF THE DUMP (.gsa) THAT YtpngeaklfjofiaaProg.lean LOADS. Nothing in Lean hashes anything: it is a label: what it is worth is what the hold of that sum in a sandbox is worth. -/
noncomputable def Try.pinned : Pinned := { name := "ytpngeaklfjofiaa", sum := "47fe6c805f6849f05768a690f7bab90538419f22080406074600c35d4ce30812", checked := Try.checked }
namespace Rows
def none {H : Type} : Left H := { results := [], args := [] }

/-- 'alidadelaw03.KernTurns': WHATEVER THE INPUT: true; the input reads as it did. -/
def kernTurnsSpec : ChangeSpec := { name := "kernTurns", fn := fun _ => fun
  | [d1, d2, d3] => { results := [.lit (.bool true)], args := [d1, d2, d3] }
  | _ => none }
def kernTurnsRow : OpenClaim := { program := "ytpngeaklfjofiaa", sum := "47fe6c805f6849f05768a690f7bab90538419f22080406074600c35d4ce30812", func := "alidade/alidadelaw03.KernTurns", spec := "kernTurns", inPlace := ["math/bits.Sub64"], apart := false }
def KernTurnsSaid : Prop := kernTurnsRow.holds Try.pinned (OpenSpec.ofChange kernTurnsSpec)

/-- ITS FALSE NEIGHBOUR: 'it returns false'. Refute it at one input. -/
def kernTurnsWrong : ChangeSpec := { name := "kernTurns", fn := fun _ => fun
  | [d1, d2, d3] => { results := [.lit (.bool false)], args := [d1, d2, d3] }
  | _ => none }
def KernTurnsWrongFalsely : Prop := kernTurnsRow.holds Try.pinned (OpenSpec.ofChange kernTurnsWrong)

/-- 'alidadelaw03.KernBetween': WHATEVER THE INPUT: true; the input reads as it did. -/
def kernBetweenSpec : ChangeSpec := { name := "kernBetween", fn := fun _ => fun
  | [d1, d2, d3] => { results := [.lit (.bool true)], args := [d1, d2, d3] }
  | _ => none }
def kernBetweenRow : OpenClaim := { program := "ytpngeaklfjofiaa", sum := "47fe6c805f6849f05768a690f7bab90538419f22080406074600c35d4ce30812", func := "alidade/alidadelaw03.KernBetween", spec := "kernBetween", inPlace := ["math/bits.Sub64"], apart := false }
def KernBetweenSaid : Prop := kernBetweenRow.holds Try.pinned (OpenSpec.ofChange kernBetweenSpec)

/-- ITS FALSE NEIGHBOUR: 'it returns false'. Refute it at one input. -/
def kernBetweenWrong : ChangeSpec := { name := "kernBetween", fn := fun _ => fun
  | [d1, d2, d3] => { results := [.lit (.bool false)], args := [d1, d2, d3] }
  | _ => none }
def KernBetweenWrongFalsely : Prop := kernBetweenRow.holds Try.pinned (OpenSpec.ofChange kernBetweenWrong)

/-- 'alidadelaw03.KernOrders': WHATEVER THE INPUT: true; the input reads as it did. -/
def kernOrdersSpec : ChangeSpec := { name := "kernOrders", fn := fun _ => fun
  | [d1, d2, d3] => { results := [.lit (.bool true)], args := [d1, d2, d3] }
  | _ => none }
def kernOrdersRow : OpenClaim := { program := "ytpngeaklfjofiaa", sum := "47fe6c805f6849f05768a690f7bab90538419f22080406074600c35d4ce30812", func := "alidade/alidadelaw03.KernOrders", spec := "kernOrders", inPlace := ["math/bits.Sub64"], unfollowed := true, recurses := true, apart := false }
def KernOrdersSaid : Prop := kernOrdersRow.holds Try.pinned (OpenSpec.ofChange kernOrdersSpec)

/-- ITS FALSE NEIGHBOUR: 'it returns false'. Refute it at one input. -/
def kernOrdersWrong : ChangeSpec := { name := "kernOrders", fn := fun _ => fun
  | [d1, d2, d3] => { results := [.lit (.bool false)], args := [d1, d2, d3] }
  | _ => none }
def KernOrdersWrongFalsely : Prop := kernOrdersRow.holds Try.pinned (OpenSpec.ofChange kernOrdersWrong)

/-- 'alidadelaw03.KernAreas': WHATEVER THE INPUT: true; the input reads as it did. -/
def kernAreasSpec : ChangeSpec := { name := "kernAreas", fn := fun _ => fun
  | [d] => { results := [.lit (.bool true)], args := [d] }
  | _ => none }
def kernAreasRow : OpenClaim := { program := "ytpngeaklfjofiaa", sum := "47fe6c805f6849f05768a690f7bab90538419f22080406074600c35d4ce30812", func := "alidade/alidadelaw03.KernAreas", spec := "kernAreas", inPlace := ["math/bits.Sub64", "math/bits.Add64"], unfollowed := true, recurses := true, apart := false }
def KernAreasSaid : Prop := kernAreasRow.holds Try.pinned (OpenSpec.ofChange kernAreasSpec)

/-- ITS FALSE NEIGHBOUR: 'it returns false'. Refute it at one input. -/
def kernAreasWrong : ChangeSpec := { name := "kernAreas", fn := fun _ => fun
  | [d] => { results := [.lit (.bool false)], args := [d] }
  | _ => none }
def KernAreasWrongFalsely : Prop := kernAreasRow.holds Try.pinned (OpenSpec.ofChange kernAreasWrong)

/- THE SECOND FORM. 'bulk': how many values and letters a reading holds, each counted each time it is reached (what is shared counts as often as it is met; a slice's spare places count too). A statement '..UptoSaid' is the law's where the arguments, and the package variables that the reading takes, are together of bulk at most 1048576: NARROWER than '..Said'. Prove '..Said' where nothing that the law and all that it calls make is longer than what came in: it says more and counts as full. Else prove '..UptoSaid'. A law counts once. -/
mutual
def uptoBulk {H : Type} : DataW H → Nat
  | .lit (.string bytes) => bytes.length + 1
  | .lit _ => 1
  | .nil => 1
  | .ptr d => uptoBulk d + 1
  | .slice elems spare => uptoBulkAll elems + uptoBulkAll spare + 1
  | .agg parts => uptoBulkAll parts + 1
  | .iface _ d => uptoBulk d + 1
  | .map entries => uptoBulkEntries entries + 1
  | .held _ => 1
def uptoBulkAll {H : Type} : List (DataW H) → Nat
  | [] => 0
  | d :: r => uptoBulk d + uptoBulkAll r
def uptoBulkEntries {H : Type} : List (Lit × DataW H) → Nat
  | [] => 0
  | x :: r => uptoBulkEntry x + uptoBulkEntries r
def uptoBulkEntry {H : Type} : Lit × DataW H → Nat
  | (.string bytes, d) => bytes.length + uptoBulk d + 1
  | (_, d) => uptoBulk d + 1
 end
def uptoSmall : (H : Type) → List (DataW H) → Bool := fun _ ds => decide (uptoBulkAll ds ≤ 1048576)
def OpenSpec.upto (s : _root_.Go.ChangeSpec) : _root_.Go.OpenSpec := { _root_.Go.OpenSpec.ofChange s with cond := some uptoSmall }

/-- 'alidadelaw03.KernTurns', WHERE WHAT IT READS IS OF BULK AT MOST 1048576: true; the input reads as it did. -/
def kernTurnsUptoRow : OpenClaim := { program := "ytpngeaklfjofiaa", sum := "47fe6c805f6849f05768a690f7bab90538419f22080406074600c35d4ce30812", func := "alidade/alidadelaw03.KernTurns", spec := "kernTurns", inPlace := ["math/bits.Sub64"], apart := false, narrowed := true }
def KernTurnsUptoSaid : Prop := kernTurnsUptoRow.holds Try.pinned (OpenSpec.upto kernTurnsSpec)

/-- 'alidadelaw03.KernBetween', WHERE WHAT IT READS IS OF BULK AT MOST 1048576: true; the input reads as it did. -/
def kernBetweenUptoRow : OpenClaim := { program := "ytpngeaklfjofiaa", sum := "47fe6c805f6849f05768a690f7bab90538419f22080406074600c35d4ce30812", func := "alidade/alidadelaw03.KernBetween", spec := "kernBetween", inPlace := ["math/bits.Sub64"], apart := false, narrowed := true }
def KernBetweenUptoSaid : Prop := kernBetweenUptoRow.holds Try.pinned (OpenSpec.upto kernBetweenSpec)

/-- 'alidadelaw03.KernOrders', WHERE WHAT IT READS IS OF BULK AT MOST 1048576: true; the input reads as it did. -/
def kernOrdersUptoRow : OpenClaim := { program := "ytpngeaklfjofiaa", sum := "47fe6c805f6849f05768a690f7bab90538419f22080406074600c35d4ce30812", func := "alidade/alidadelaw03.KernOrders", spec := "kernOrders", inPlace := ["math/bits.Sub64"], unfollowed := true, recurses := true, apart := false, narrowed := true }
def KernOrdersUptoSaid : Prop := kernOrdersUptoRow.holds Try.pinned (OpenSpec.upto kernOrdersSpec)

/-- 'alidadelaw03.KernAreas', WHERE WHAT IT READS IS OF BULK AT MOST 1048576: true; the input reads as it did. -/
def kernAreasUptoRow : OpenClaim := { program := "ytpngeaklfjofiaa", sum := "47fe6c805f6849f05768a690f7bab90538419f22080406074600c35d4ce30812", func := "alidade/alidadelaw03.KernAreas", spec := "kernAreas", inPlace := ["math/bits.Sub64", "math/bits.Add64"], unfollowed := true, recurses := true, apart := false, narrowed := true }
def KernAreasUptoSaid : Prop := kernAreasUptoRow.holds Try.pinned (OpenSpec.upto kernAreasSpec)

end Rows
end Go.Proofs.Ytpngeaklfjofiaa
