/- Chapter 3: points that come in. -/
import Derived.Test.YtalbaopfdejooaaAreaE
namespace Go.Proofs.Ytalbaopfdejooaa.AreaF
open Go.RowKit Base Slices Leaf AreaA Go.ChangeShapes Go.WideShapes Go.ChangeAt Go.Deep
set_option linter.unusedVariables false
theorem pt_cells : Try.prog.cellsOf 34 = 3 := by kernel_rfl
def decP (vs : List Value) : Pn := match vs with | [.int _ a, .int _ b, .int _ c] => (a, b, c) | _ => (0, 0, 0)
theorem open_pts {H : Type} {enc : TypeId × Value → H} {w : World} {base : Nat} {v : Value} {d : DataW H} {p : List MemPlace} (hv : Value.okWide Try.prog w .any base 22 v) (h : DataW.Trod enc Try.prog w 0 (fun _ => true) true 22 v d p) :
    ∃ l : List Pn, Come EPt w v l := by
  obtain ⟨l, h1, h2, h3⟩ := open_come (ks := [.i .i64, .i .i64, .i .i64]) EPt_ok 9 (by kernel_rfl) pt_cells decP (fun vs hvs => by
    obtain ⟨_, v1, rfl, ⟨a, rfl, _, _⟩, h1⟩ := Leaf.Leafs.cons hvs
    obtain ⟨_, v2, rfl, ⟨b, rfl, _, _⟩, h2⟩ := Leaf.Leafs.cons h1
    obtain ⟨_, v3, rfl, ⟨c, rfl, _, _⟩, h3⟩ := Leaf.Leafs.cons h2
    obtain rfl : v3 = [] := h3
    rfl) hv h
  exact ⟨l, h1⟩
end Go.Proofs.Ytalbaopfdejooaa.AreaF
