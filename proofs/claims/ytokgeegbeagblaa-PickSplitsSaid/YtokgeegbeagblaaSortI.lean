/- Chapter 7: the walks of slices.Clone and of by (elements put in one by one). -/
import Derived.Test.YtokgeegbeagblaaSortH
import Derived.BigRegion
namespace Go.Proofs.Ytokgeegbeagblaa.SortI
open Go.RowKit Base SortA SortB SortC SortD SortE SortG Quiet
set_option linter.unusedVariables false
set_option linter.unusedSimpArgs false

theorem wpList_app {ops : Array Oper} {rest : List Oper} {o : Oper} {a : Act} {Q : Exit → Act → World → Prop} {w : World} (hgd : o.guard = none) (s x : Operand)
    (ho : o.op = .call { callee := .builtin .append, args := #[s, x], argTypes := #[22, 22] })
    (base : Nat) (v y : Value) (l1 l2 : List Pr) (hs : a.eval s = v) (hown : Own w base v l1) (hx : a.eval x = y) (hy : Sl w y l2) (hl : l1.length + l2.length ≤ 100000) (hbase : base ≤ w.heap.size)
    (h : ∀ v' w', Own w' base v' (l1 ++ l2) → Fr (Of v) w w' → (∀ g, v.ownBlock = some g → base ≤ g ∧ g < w.heap.size) → (v' = .slice none 0 0 → v = .slice none 0 0) → wpList Try.prog ops Q rest (a.put o.dst v') w') : wpList Try.prog ops Q (o :: rest) a w :=
  wpList_plain hgd fun _ hK => wp_app s x ho base v y l1 l2 hs hown hx hy hl hbase fun v' w' h1 h2 h3 h4 => hK _ _ (h v' w' h1 h2 h3 h4)

theorem clone_some (l : List Pr) (g o cap : Nat) (w : World) (hl : l.length ≤ 100000) (hv : Sl w (.slice (some ⟨g, o, none⟩) l.length cap) l) :
    Calls Try.prog 33 #[.slice (some ⟨g, o, none⟩) l.length cap] w fun e w' => ∃ u, e = .returned u ∧ Fr Nil w w' ∧ Own w' w.heap.size u l ∧ u ≠ .slice none 0 0 := by
  have H1 := Lib.hid (hv.fr ((Fr.refl Nil w).alloc (.cells #[] 28)))
  have F1 := Lib.hid ((Fr.refl Nil w).alloc (.cells #[] 28))
  have O1 := Lib.hid (Own.made w w.heap.size (Nat.le_refl _))
  clear hv
  have hnil : ∀ W, (binOp .eql 22 (.slice (some ⟨g, o, none⟩) l.length cap) (.slice none 0 0)).run Try.prog W = .ok (.bool false) W := fun W => by kernel_rfl
  go_enter Try.func33, Try.ntmps33
  go_wp2_with (at_builtin; refine wpList_app rfl (.tmp 5) (.tmp 6) rfl w.heap.size _ _ [] l rfl O1.out rfl H1.out (by simp; omega) (by simp) ?_; intro v' w1 h1 h2 h3 h4)
  go_ret
  exact ⟨v', rfl, Fr.then F1.out h2 (fun i hi hlt => by have := (h3 i hi).1; omega), h1, fun e => by have := h4 e; cases this⟩

theorem clone_none (w : World) :
    Calls Try.prog 33 #[.slice none 0 0] w fun e w' => e = .returned (.slice none 0 0) ∧ Fr Nil w w' := by
  have hnil : ∀ W, (binOp .eql 22 (.slice none 0 0) (.slice none 0 0)).run Try.prog W = .ok (.bool true) W := fun W => by kernel_rfl
  go_enter Try.func33, Try.ntmps33
  go_wp2
  go_ret
  exact ⟨rfl, by (repeat' (with_reducible first | refine Fr.setCell ?_ (fun hlt => absurd hlt (by dsimp only; omega)) _ | refine Fr.alloc ?_ _ | refine Fr.drewN ?_ _ | refine Fr.drew ?_ | exact Fr.refl _ _))⟩

/-- a row of the call's own that may be rewritten -/
structure Mine (w0 : World) (g : Nat) (l : List Pr) (w : World) : Prop where
  row : Row w g 0 l
  froz : ∀ i, w.frozen? ⟨g, i, none⟩ = false
  new : w0.heap.size ≤ g
  lt : g < w.heap.size
  fr : Fr Nil w0 w

theorem Mine.drewN {w0 w : World} {g : Nat} {l : List Pr} (h : Mine w0 g l w) (n : Nat) : Mine w0 g l (w.drewN n) := ⟨h.row, h.froz, h.new, h.lt, h.fr.drewN n⟩
theorem Mine.drew {w0 w : World} {g : Nat} {l : List Pr} (h : Mine w0 g l w) : Mine w0 g l w.drew := ⟨h.row, h.froz, h.new, h.lt, h.fr.drew⟩
theorem Mine.keep {w0 w w' : World} {g : Nat} {l : List Pr} (h : Mine w0 g l w) (hf : Fr Nil w w') : Mine w0 g l w' :=
  ⟨h.row.fr hf h.lt id, fun i => (hf.frozen (p := ⟨g, i, none⟩) h.lt id).trans (h.froz i), h.new, Nat.lt_of_lt_of_le h.lt hf.size, h.fr.trans hf⟩

theorem cell_set (w : World) (g i j : Nat) (u : Value) (x : Value) (hx : w.cell? ⟨g, j, none⟩ = some x) : (w.setCell ⟨g, i, none⟩ u).cell? ⟨g, j, none⟩ = if i = j then some u else w.cell? ⟨g, j, none⟩ := by
  split
  · next h => subst h; exact World.cell?_setCell_same w _ u hx
  · next h => exact World.cell?_setCell_other w _ _ u (by simp [h])
end Go.Proofs.Ytokgeegbeagblaa.SortI
