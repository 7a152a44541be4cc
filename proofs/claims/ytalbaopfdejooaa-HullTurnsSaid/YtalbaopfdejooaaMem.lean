/- More words for memory: new blocks, rows of the call's own. -/
import Derived.Test.YtalbaopfdejooaaBase
namespace Go.Proofs.Ytalbaopfdejooaa.Base
open Go.RowKit

/-- the cells of a block that has just been made -/
theorem cells_new (w : World) (t : TypeId) (cs : List Value) (n : Nat) (hn : n = w.heap.size) : ∀ (j : Nat) (u : Value), cs[j]? = some u → (w.alloc (.cells cs.toArray t)).cell? ((⟨n, 0, none⟩ : Addr).add j) = some u := by
  intro j u h
  subst hn
  have hj : (⟨w.heap.size, 0, none⟩ : Addr).add j = ⟨w.heap.size, j, none⟩ := by unfold Addr.add; split <;> simp_all
  rw [hj, (Bk.new w t cs.toArray).cell j, List.getElem?_toArray, h]
/-- what an append to a row of the call's own may turn is new -/
theorem Fr.append {S : Nat → Prop} {a w w' : World} {row : Option Nat} (h : Fr S a w) (hg : w.grownBy w' row) (hr : ∀ g, row = some g → a.heap.size ≤ g) : Fr S a w' :=
  h.then (T := fun k => a.heap.size ≤ k) (Fr.of_grown hg fun g hgr _ => hr g hgr) fun i hi hlt => absurd hi (by omega)

/-- A callee that is sure to panic, inside a region that draws its order: the way on is kept open, under False. -/
theorem orFalse {P : Program} {f : FuncId} {args : Array Value} {w : World} {R : Ending → World → Prop} (v : Value) (h : Calls P f args w R) : Calls P f args w fun e w' => R e w' ∨ (Hid False ∧ e = .returned v ∧ w = w') :=
  h.mono fun _ _ r => Or.inl r
theorem new' {w : World} {g : Nat} {t : TypeId} {cs : Array Value} (h : g = w.heap.size) : Bk (w.alloc (.cells cs t)) g t cs := by
  subst h
  exact Bk.new w t cs
end Go.Proofs.Ytalbaopfdejooaa.Base
