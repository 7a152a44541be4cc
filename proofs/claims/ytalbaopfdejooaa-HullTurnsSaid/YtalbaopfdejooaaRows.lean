/-
  No cell of these rows narrows 'for every input' (looked for: loops, veiled, ifaces, maps, wideKeys, modest, calm, conditions, laid).
  DERIVED. THE GIVEN ROWS OF THIS SEAT. 5 by the template 'for every input the law returns true; each argument reads behind the call as it read before'; 0 by the template 'total and deterministic' (their statements: YtalbaopfdejooaaTotals.lean).
  GIVEN WITH THE SEED: the statements are not yours to turn. If you find one false, say at which input.
  Laid BY PROGRAM, IN A SANDBOX (cutbox-rows.mjs): the forced cells as the released guide's own fill.sh prints them over the translation 01894123932c49e2… (all of the seat's roots in one cut). By AI agents, Wed Nov 11 2026. No macro, syntax, notation, axiom, sorry.
-/
import Derived.Test.YtalbaopfdejooaaChecked
import GoSem.Claim
import GoSem.ClaimJoined
import GoSem.ClaimMapViews
import Derived.JoinedTies
import Derived.KernelRfl
namespace Go.Proofs.Ytalbaopfdejooaa
/- THE CELL 'sum', in the pinned program and in every row, IS THE sha256 OF THE DUMP (.gsa) THAT YtalbaopfdejooaaProg.lean LOADS. Nothing in Lean hashes anything: it is a label: what it is worth is what the hold of that sum in a sandbox is worth. -/
noncomputable def Try.pinned : Pinned := { name := "ytalbaopfdejooaa", sum := "01894123932c49e2864bac830401e0de8a5985e37e6d6ab005024b564e67e0c3", checked := Try.checked }
namespace Rows
def none {H : Type} : Left H := { results := [], args := [] }

/-- 'alidadelaw41.HullMerges': WHATEVER THE INPUT: true; the input reads as it did. -/
def hullMergesSpec : ChangeSpec := { name := "hullMerges", fn := fun _ => fun
  | [d1, d2] => { results := [.lit (.bool true)], args := [d1, d2] }
  | _ => none }
def hullMergesRow : OpenClaim := { program := "ytalbaopfdejooaa", sum := "01894123932c49e2864bac830401e0de8a5985e37e6d6ab005024b564e67e0c3", func := "alidade/alidadelaw41.HullMerges", spec := "hullMerges", inPlace := ["math/bits.Sub64"], unfollowed := true, recurses := true, apart := false }
def HullMergesSaid : Prop := hullMergesRow.holds Try.pinned (OpenSpec.ofChange hullMergesSpec)

/-- ITS FALSE NEIGHBOUR: 'it returns false'. Refute it at one input. -/
def hullMergesWrong : ChangeSpec := { name := "hullMerges", fn := fun _ => fun
  | [d1, d2] => { results := [.lit (.bool false)], args := [d1, d2] }
  | _ => none }
def HullMergesWrongFalsely : Prop := hullMergesRow.holds Try.pinned (OpenSpec.ofChange hullMergesWrong)

/-- 'alidadelaw41.HullCorners': WHATEVER THE INPUT: true; the input reads as it did. -/
def hullCornersSpec : ChangeSpec := { name := "hullCorners", fn := fun _ => fun
  | [d] => { results := [.lit (.bool true)], args := [d] }
  | _ => none }
def hullCornersRow : OpenClaim := { program := "ytalbaopfdejooaa", sum := "01894123932c49e2864bac830401e0de8a5985e37e6d6ab005024b564e67e0c3", func := "alidade/alidadelaw41.HullCorners", spec := "hullCorners", inPlace := ["math/bits.Sub64"], unfollowed := true, recurses := true, apart := false }
def HullCornersSaid : Prop := hullCornersRow.holds Try.pinned (OpenSpec.ofChange hullCornersSpec)

/-- ITS FALSE NEIGHBOUR: 'it returns false'. Refute it at one input. -/
def hullCornersWrong : ChangeSpec := { name := "hullCorners", fn := fun _ => fun
  | [d] => { results := [.lit (.bool false)], args := [d] }
  | _ => none }
def HullCornersWrongFalsely : Prop := hullCornersRow.holds Try.pinned (OpenSpec.ofChange hullCornersWrong)

/-- 'alidadelaw41.HullHas': WHATEVER THE INPUT: true; the input reads as it did. -/
def hullHasSpec : ChangeSpec := { name := "hullHas", fn := fun _ => fun
  | [d1, d2] => { results := [.lit (.bool true)], args := [d1, d2] }
  | _ => none }
def hullHasRow : OpenClaim := { program := "ytalbaopfdejooaa", sum := "01894123932c49e2864bac830401e0de8a5985e37e6d6ab005024b564e67e0c3", func := "alidade/alidadelaw41.HullHas", spec := "hullHas", inPlace := ["math/bits.Sub64"], unfollowed := true, recurses := true, apart := false }
def HullHasSaid : Prop := hullHasRow.holds Try.pinned (OpenSpec.ofChange hullHasSpec)

/-- ITS FALSE NEIGHBOUR: 'it returns false'. Refute it at one input. -/
def hullHasWrong : ChangeSpec := { name := "hullHas", fn := fun _ => fun
  | [d1, d2] => { results := [.lit (.bool false)], args := [d1, d2] }
  | _ => none }
def HullHasWrongFalsely : Prop := hullHasRow.holds Try.pinned (OpenSpec.ofChange hullHasWrong)

/-- 'alidadelaw41.HullFar': WHATEVER THE INPUT: true; the input reads as it did. -/
def hullFarSpec : ChangeSpec := { name := "hullFar", fn := fun _ => fun
  | [d1, d2, d3] => { results := [.lit (.bool true)], args := [d1, d2, d3] }
  | _ => none }
def hullFarRow : OpenClaim := { program := "ytalbaopfdejooaa", sum := "01894123932c49e2864bac830401e0de8a5985e37e6d6ab005024b564e67e0c3", func := "alidade/alidadelaw41.HullFar", spec := "hullFar", inPlace := ["math/bits.Sub64", "math/bits.Add64"], unfollowed := true, recurses := true, apart := false }
def HullFarSaid : Prop := hullFarRow.holds Try.pinned (OpenSpec.ofChange hullFarSpec)

/-- ITS FALSE NEIGHBOUR: 'it returns false'. Refute it at one input. -/
def hullFarWrong : ChangeSpec := { name := "hullFar", fn := fun _ => fun
  | [d1, d2, d3] => { results := [.lit (.bool false)], args := [d1, d2, d3] }
  | _ => none }
def HullFarWrongFalsely : Prop := hullFarRow.holds Try.pinned (OpenSpec.ofChange hullFarWrong)

/-- 'alidadelaw41.HullTurns': WHATEVER THE INPUT: true; the input reads as it did. -/
def hullTurnsSpec : ChangeSpec := { name := "hullTurns", fn := fun _ => fun
  | [d] => { results := [.lit (.bool true)], args := [d] }
  | _ => none }
def hullTurnsRow : OpenClaim := { program := "ytalbaopfdejooaa", sum := "01894123932c49e2864bac830401e0de8a5985e37e6d6ab005024b564e67e0c3", func := "alidade/alidadelaw41.HullTurns", spec := "hullTurns", inPlace := ["math/bits.Sub64", "math/bits.Add64"], unfollowed := true, recurses := true, apart := false }
def HullTurnsSaid : Prop := hullTurnsRow.holds Try.pinned (OpenSpec.ofChange hullTurnsSpec)

/-- ITS FALSE NEIGHBOUR: 'it returns false'. Refute it at one input. -/
def hullTurnsWrong : ChangeSpec := { name := "hullTurns", fn := fun _ => fun
  | [d] => { results := [.lit (.bool false)], args := [d] }
  | _ => none }
def HullTurnsWrongFalsely : Prop := hullTurnsRow.holds Try.pinned (OpenSpec.ofChange hullTurnsWrong)

/- THE SECOND FORM. 'bulk': how many values and letters a reading holds, each counted each time it is reached (what is shared counts as often as it is met; a slice's spare places count too). A statement '..UptoSaid' is the law's where the arguments, and the package variables that the reading takes, are together of bulk at most 1048576: NARROWER than '..Said'. Prove '..Said' where nothing that the law and all that it calls make is longer than what came in: it says more and counts as full. Else prove '..UptoSaid'. A law counts once. -/
mutual
def uptoBulk {H : Type} : DataW H → Nat
  | .lit (.string bytes) => bytes.length + 1
  | .lit _ => 1
  | .nil => 1
  | .ptr d => uptoBulk d + 1
  | .slice elems spare => uptoBulkAll elems + uptoBulkAll spare + 1
  | .agg parts => uptoBulkAll parts + 1
  | .iface _ d => uptoBulk d + 1
  | .map entries => uptoBulkEntries entries + 1
  | .held _ => 1
def uptoBulkAll {H : Type} : List (DataW H) → Nat
  | [] => 0
  | d :: r => uptoBulk d + uptoBulkAll r
def uptoBulkEntries {H : Type} : List (Lit × DataW H) → Nat
  | [] => 0
  | x :: r => uptoBulkEntry x + uptoBulkEntries r
def uptoBulkEntry {H : Type} : Lit × DataW H → Nat
  | (.string bytes, d) => bytes.length + uptoBulk d + 1
  | (_, d) => uptoBulk d + 1
 end
def uptoSmall : (H : Type) → List (DataW H) → Bool := fun _ ds => decide (uptoBulkAll ds ≤ 1048576)
def OpenSpec.upto (s : _root_.Go.ChangeSpec) : _root_.Go.OpenSpec := { _root_.Go.OpenSpec.ofChange s with cond := some uptoSmall }

/-- 'alidadelaw41.HullMerges', WHERE WHAT IT READS IS OF BULK AT MOST 1048576: true; the input reads as it did. -/
def hullMergesUptoRow : OpenClaim := { program := "ytalbaopfdejooaa", sum := "01894123932c49e2864bac830401e0de8a5985e37e6d6ab005024b564e67e0c3", func := "alidade/alidadelaw41.HullMerges", spec := "hullMerges", inPlace := ["math/bits.Sub64"], unfollowed := true, recurses := true, apart := false, narrowed := true }
def HullMergesUptoSaid : Prop := hullMergesUptoRow.holds Try.pinned (OpenSpec.upto hullMergesSpec)

/-- 'alidadelaw41.HullCorners', WHERE WHAT IT READS IS OF BULK AT MOST 1048576: true; the input reads as it did. -/
def hullCornersUptoRow : OpenClaim := { program := "ytalbaopfdejooaa", sum := "01894123932c49e2864bac830401e0de8a5985e37e6d6ab005024b564e67e0c3", func := "alidade/alidadelaw41.HullCorners", spec := "hullCorners", inPlace := ["math/bits.Sub64"], unfollowed := true, recurses := true, apart := false, narrowed := true }
def HullCornersUptoSaid : Prop := hullCornersUptoRow.holds Try.pinned (OpenSpec.upto hullCornersSpec)

/-- 'alidadelaw41.HullHas', WHERE WHAT IT READS IS OF BULK AT MOST 1048576: true; the input reads as it did. -/
def hullHasUptoRow : OpenClaim := { program := "ytalbaopfdejooaa", sum := "01894123932c49e2864bac830401e0de8a5985e37e6d6ab005024b564e67e0c3", func := "alidade/alidadelaw41.HullHas", spec := "hullHas", inPlace := ["math/bits.Sub64"], unfollowed := true, recurses := true, apart := false, narrowed := true }
def HullHasUptoSaid : Prop := hullHasUptoRow.holds Try.pinned (OpenSpec.upto hullHasSpec)

/-- 'alidadelaw41.HullFar', WHERE WHAT IT READS IS OF BULK AT MOST 1048576: true; the input reads as it did. -/
def hullFarUptoRow : OpenClaim := { program := "ytalbaopfdejooaa", sum := "01894123932c49e2864bac830401e0de8a5985e37e6d6ab005024b564e67e0c3", func := "alidade/alidadelaw41.HullFar", spec := "hullFar", inPlace := ["math/bits.Sub64", "math/bits.Add64"], unfollowed := true, recurses := true, apart := false, narrowed := true }
def HullFarUptoSaid : Prop := hullFarUptoRow.holds Try.pinned (OpenSpec.upto hullFarSpec)

/-- 'alidadelaw41.HullTurns', WHERE WHAT IT READS IS OF BULK AT MOST 1048576: true; the input reads as it did. -/
def hullTurnsUptoRow : OpenClaim := { program := "ytalbaopfdejooaa", sum := "01894123932c49e2864bac830401e0de8a5985e37e6d6ab005024b564e67e0c3", func := "alidade/alidadelaw41.HullTurns", spec := "hullTurns", inPlace := ["math/bits.Sub64", "math/bits.Add64"], unfollowed := true, recurses := true, apart := false, narrowed := true }
def HullTurnsUptoSaid : Prop := hullTurnsUptoRow.holds Try.pinned (OpenSpec.upto hullTurnsSpec)

end Rows
end Go.Proofs.Ytalbaopfdejooaa
