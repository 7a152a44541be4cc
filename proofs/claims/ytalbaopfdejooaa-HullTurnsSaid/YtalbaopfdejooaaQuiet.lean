/- Words for a region that draws its order, whose operations only read, and whose callees turn no elder block (Fr): one walk, in the order of the text. -/
import Derived.Test.YtalbaopfdejooaaBase
import Derived.Deep.QuietTactic
import Derived.BigQuiet
namespace Go.Proofs.Ytalbaopfdejooaa.Quiet
open Go.RowKit Base

/-- a world that has come of w, no block of w but those of S turned -/
structure FrW (S : Nat → Prop) (w : World) where
  val : World
  fr : Fr S w val

instance (S : Nat → Prop) (w : World) : Nonempty (FrW S w) := ⟨⟨w, Fr.refl _ _⟩⟩

theorem wp_region_quiet_fr (S : Nat → Prop) {P : Program} {id : Nat} {Q : Exit → Act → World → Prop} {a : Act} {w : World} {l : List Oper} (hm : P.follows .mixedOrders = true) (hB : Region.lexB .any l.toArray = true)
    (h : wpQuiet P l.toArray (fun w' => ∃ p : FrW S w, w' = p.val) (fun a' => ∀ w', (∃ p : FrW S w, w' = p.val) → Q .normal a' w') l a) : (Code.region id l.toArray true).wp P Q a w :=
  wp_region_quiet (C := fun w' => ∃ p : FrW S w, w' = p.val) hm hB ⟨⟨w.drew, (Fr.refl _ _).drew⟩, rfl⟩ (by simpa using h)

/-- a callee's contract, met in a world of the class -/
theorem quiet_call {S : Nat → Prop} {P : Program} {f : FuncId} {args : Array Value} {w : World} {p : FrW S w} {v : Value}
    (h : Calls P f args p.val fun e w' => e = .returned v ∧ Fr S p.val w') : Calls P f args p.val fun e w' => e = .returned v ∧ ∃ q : FrW S w, w' = q.val :=
  h.mono fun _ w' ⟨he, hf⟩ => ⟨he, ⟨w', p.fr.trans hf⟩, rfl⟩

theorem quiet_calls {S : Nat → Prop} {P : Program} {f : FuncId} {args : Array Value} {w : World} {p : FrW S w} {v : Value}
    (h : Calls P f args p.val fun e w' => e = .returned v ∧ Fr Nil p.val w') : Calls P f args p.val fun e w' => e = .returned v ∧ ∃ q : FrW S w, w' = q.val :=
  quiet_call (h.mono fun _ _ ⟨he, hf⟩ => ⟨he, hf.of_nil⟩)

theorem quiet_cell {S : Nat → Prop} {w : World} {g : Nat} {t : TypeId} {cs : Array Value} (h : Bk w g t cs) (hg : ¬ S g) (p : FrW S w) (i : Nat) : p.val.cell? ⟨g, i, none⟩ = cs[i]? := (h.fr p.fr hg).cell i
theorem quiet_c2 {S : Nat → Prop} {w : World} {g : Nat} {t : TypeId} {x y : Value} (h : Bk w g t #[x, y]) (hg : ¬ S g) : (∀ p : FrW S w, p.val.cell? ⟨g, 0, none⟩ = some x) ∧ (∀ p : FrW S w, p.val.cell? ⟨g, 1, none⟩ = some y) :=
  ⟨fun p => (h.fr p.fr hg).cell 0, fun p => (h.fr p.fr hg).cell 1⟩
theorem quiet_size {S : Nat → Prop} {w : World} {g : Nat} (h : g < w.heap.size) (p : FrW S w) : g < p.val.heap.size := Nat.lt_of_lt_of_le h p.fr.size
end Go.Proofs.Ytalbaopfdejooaa.Quiet
