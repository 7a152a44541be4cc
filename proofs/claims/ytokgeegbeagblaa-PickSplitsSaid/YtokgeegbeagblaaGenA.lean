/- Chapter 8, with any function value that tells which of two pairs comes first, and may count: what is known of it; a row that is rewritten. -/
import Derived.Test.YtokgeegbeagblaaPickC
import Derived.Deep.RegionHeldLaw
namespace Go.Proofs.Ytokgeegbeagblaa.GenA
open Go.RowKit Base SortA SortB SortC SortD SortE SortG SortI SortJ SortK Quiet PickA
set_option linter.unusedVariables false
set_option linter.unusedSimpArgs false

/-- a function value that compares: it may turn the blocks of S alone; J n: it has been called n times -/
structure Ls (F : FuncId) (first : Array Value) (S : Nat → Prop) (J : Nat → World → Prop) : Prop where
  enters : ∀ (args : Array Value) (w : World), (callFunc F args).run Try.prog w = .ok (.enter F args) w
  call : ∀ (n : Nat) (a b : Pr) (W : World), n ≤ 1000000 → J n W → Calls Try.prog F (first ++ #[.agg #[.int .i64 a.1, .int .i64 a.2], .agg #[.int .i64 b.1, .int .i64 b.2]]) W fun e W' => e = .returned (.bool (decide (a.1 < b.1))) ∧ Fr S W W' ∧ J (n + 1) W'
  keep : ∀ (T : Nat → Prop) (n : Nat) (W W' : World), J n W → Fr T W W' → (∀ k, T k → ¬ S k) → J n W'
  lt : ∀ (n : Nat) (W : World) (k : Nat), J n W → S k → k < W.heap.size
  cells : ∀ (n : Nat) (W : World) (k : Nat), J n W → S k → ∃ cs t, W.heap[k]? = some (.cells cs t (0, 0))

def lessG (F : FuncId) (first : Array Value) : Value := .func (.func F) first #[]
/-- no more than k calls since n -/
def Cnt (J : Nat → World → Prop) (n k : Nat) (w : World) : Prop := ∃ m, m ≤ n + k ∧ J m w

section
variable {F : FuncId} {first : Array Value} {S : Nat → Prop} {J : Nat → World → Prop} {w w' w0 : World} {n k g : Nat} {l : List Pr}
theorem Ls.nil (L : Ls F first S J) (h : J n w) (hf : Fr Nil w w') : J n w' := L.keep Nil n w w' h hf fun _ h => h.elim
theorem Cnt.zero (h : J n w) : Cnt J n 0 w := ⟨n, Nat.le_refl _, h⟩
theorem Cnt.nil (L : Ls F first S J) (h : Cnt J n k w) (hf : Fr Nil w w') : Cnt J n k w' := let ⟨m, a, b⟩ := h; ⟨m, a, L.nil b hf⟩
theorem Cnt.keep (L : Ls F first S J) (h : Cnt J n k w) {T : Nat → Prop} (hf : Fr T w w') (hT : ∀ k, T k → ¬ S k) : Cnt J n k w' := let ⟨m, a, b⟩ := h; ⟨m, a, L.keep T m w w' b hf hT⟩
theorem Cnt.le (h : Cnt J n k w) {k' : Nat} (hk : k ≤ k') : Cnt J n k' w := let ⟨m, a, b⟩ := h; ⟨m, by omega, b⟩
theorem Cnt.add {m j : Nat} (h : Cnt J m j w) (hm : m ≤ n + k) : Cnt J n (k + j) w := let ⟨i, a, b⟩ := h; ⟨i, by omega, b⟩
theorem Cnt.lt (L : Ls F first S J) (h : Cnt J n k w) {i : Nat} (hi : S i) : i < w.heap.size := let ⟨m, _, b⟩ := h; L.lt m w i b hi
theorem Cnt.new (L : Ls F first S J) (h : Cnt J n k w) {i : Nat} (hi : w.heap.size ≤ i) : ¬ S i := fun hs => by have := h.lt L hs; omega
theorem Ls.new (L : Ls F first S J) (h : J n w) {i : Nat} (hi : w.heap.size ≤ i) : ¬ S i := fun hs => by have := L.lt n w i h hs; omega
/-- one call more -/
theorem Cnt.call (L : Ls F first S J) (h : Cnt J n k w) (hn : n + k ≤ 1000000) (a b : Pr) : Calls Try.prog F (first ++ #[.agg #[.int .i64 a.1, .int .i64 a.2], .agg #[.int .i64 b.1, .int .i64 b.2]]) w fun e W' => e = .returned (.bool (decide (a.1 < b.1))) ∧ Fr S w W' ∧ Cnt J n (k + 1) W' := by
  obtain ⟨m, hm, hj⟩ := h
  exact (L.call m a b w (by omega) hj).mono fun e W' ⟨h1, h2, h3⟩ => ⟨h1, h2, m + 1, by omega, h3⟩

/-- a row of the call's own that may be rewritten -/
structure MineS (S : Nat → Prop) (w0 : World) (g : Nat) (l : List Pr) (w : World) : Prop where
  row : Row w g 0 l
  froz : ∀ i, w.frozen? ⟨g, i, none⟩ = false
  new : w0.heap.size ≤ g
  lt : g < w.heap.size
  fr : Fr S w0 w
theorem MineS.of (h : Mine w0 g l w) (hf : Fr S w0 w) : MineS S w0 g l w := ⟨h.row, h.froz, h.new, h.lt, hf⟩
theorem MineS.keep (h : MineS S w0 g l w) (hf : Fr S w w') (hg : ¬ S g) : MineS S w0 g l w' :=
  ⟨h.row.fr hf h.lt hg, fun i => (hf.frozen (p := ⟨g, i, none⟩) h.lt hg).trans (h.froz i), h.new, Nat.lt_of_lt_of_le h.lt hf.size, h.fr.trans hf⟩
theorem MineS.drew (h : MineS S w0 g l w) : MineS S w0 g l w.drew := ⟨h.row, h.froz, h.new, h.lt, h.fr.drew⟩
theorem MineS.drewN (h : MineS S w0 g l w) (n : Nat) : MineS S w0 g l (w.drewN n) := ⟨h.row, h.froz, h.new, h.lt, h.fr.drewN n⟩
theorem MineS.at_ (h : MineS S w0 g l w) {i : Nat} {p : Pr} (hp : l[i]? = some p) : w.cell? ⟨g, i * 2, none⟩ = some (.int .i64 p.1) ∧ w.cell? ⟨g, i * 2 + 1, none⟩ = some (.int .i64 p.2) := by
  have := h.row i p hp
  simpa using this
theorem MineS.st (h : MineS S w0 g l w) {i : Nat} (hi : i < l.length) (p : Pr) : MineS S w0 g (l.set i p) (SortJ.st w g i p) := by
  refine ⟨Row.st h.row hi p, fun j => ?_, h.new, ?_, ?_⟩
  · unfold SortJ.st; rw [World.frozen?_setCell, World.frozen?_setCell]; exact h.froz j
  · unfold SortJ.st; simp [h.lt]
  · unfold SortJ.st; exact (h.fr.setCell (fun hlt => absurd h.new (by show ¬ _ ≤ g; exact Nat.not_le.2 hlt)) _).setCell (fun hlt => absurd h.new (by show ¬ _ ≤ g; exact Nat.not_le.2 hlt)) _
theorem MineS.sl (h : MineS S w0 g l w) {cap : Nat} (hc : l.length ≤ cap) (n : Nat) (hn : n = l.length) : Sl w (.slice (some ⟨g, 0, none⟩) n cap) l :=
  Or.inr ⟨g, 0, cap, by rw [hn], hc, h.lt, h.row⟩
theorem st_fr (w : World) (g i : Nat) (p : Pr) : Fr (fun k => k = g) w (SortJ.st w g i p) := by
  unfold SortJ.st
  exact ((Fr.refl (fun k => k = g) w).setCell (p := ⟨g, i * 2, none⟩) (fun _ => rfl) _).setCell (p := ⟨g, i * 2 + 1, none⟩) (fun _ => rfl) _
end

/-- 0 + 1 + .. + (n - 1) -/
def tri : Nat → Nat
  | 0 => 0
  | n + 1 => tri n + n
theorem tri_succ (n : Nat) : tri (n + 1) = tri n + n := rfl
theorem tri_le : ∀ {a b : Nat}, a ≤ b → tri a ≤ tri b
  | a, 0, h => by obtain rfl : a = 0 := by omega
                  exact Nat.le_refl _
  | a, b + 1, h => by
    rcases Nat.lt_or_ge b a with e | e
    · obtain rfl : a = b + 1 := by omega
      exact Nat.le_refl _
    · exact Nat.le_trans (tri_le e) (Nat.le_add_right _ _)
theorem tri_bd : ∀ (n : Nat), tri n ≤ n * n
  | 0 => Nat.le_refl _
  | n + 1 => by
    have := tri_bd n
    have e : (n + 1) * (n + 1) = n * n + n + n + 1 := by rw [Nat.add_mul, Nat.mul_add]; omega
    unfold tri
    omega
end Go.Proofs.Ytokgeegbeagblaa.GenA
