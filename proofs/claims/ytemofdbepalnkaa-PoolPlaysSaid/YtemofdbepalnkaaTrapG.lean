/- Contracts of package trap: catch and Catch, of any function value, and what of memory they may have turned behind what they call. -/
import Derived.Test.YtemofdbepalnkaaTrapB
namespace Go.Proofs.Ytemofdbepalnkaa.TrapG
set_option linter.unusedVariables false
open Go.RowKit TrapA TrapB Base

theorem fr_three {n : Nat} {w1 w2 : World} (h : Below w1.heap.size w1 w2) (hn : n + 1 < w1.heap.size) (x y z : Value) : Fr (fun k => n ≤ k ∧ k < n + 2) w1 (((w2.setCell ⟨n, 0, none⟩ x).setCell ⟨n, 1, none⟩ y).setCell ⟨n + 1, 0, none⟩ z) :=
  (((Fr.of_below' h).setCell (fun _ => ⟨Nat.le_refl _, by show n < n + 2; omega⟩) _).setCell (fun _ => ⟨Nat.le_refl _, by show n < n + 2; omega⟩) _).setCell (fun _ => ⟨by show n ≤ n + 1; omega, by show n + 1 < n + 2; omega⟩) _

theorem catchG_ret (F : FuncId) (first cap : Array Value) (w : World) (S : Nat → Prop) (hS : ∀ k, S k → k < w.heap.size) (Q : World → Prop) (hF : Enters F)
    (hf : Calls Try.prog F (first ++ cap) (W2 w) fun e w1 => e = .returned (.tuple #[]) ∧ Fr S (W2 w) w1 ∧ Q w1) :
    Calls Try.prog 34 #[.func (.func F) first cap] w fun e w' => e = .returned (.tuple #[.agg #[.int .i64 0, .int .i64 0], .bool false]) ∧ Fr S w w' ∧ ∃ w1, Fr S (W2 w) w1 ∧ Q w1 ∧ Fr (fun k => w.heap.size ≤ k ∧ k < w.heap.size + 2) w1 w' := by
  have hmf : ∀ (fn : Fn) (first cap : Array Value) (w : World), (Instr.makeFunc fn first cap).run Try.prog w = .ok (.func fn first cap) w := fun _ _ _ _ => rfl
  have H := Lib.hid hf
  unfold Enters at hF
  clear hf
  go_enter_defers Try.func34, Try.ntmps34
  go_wp2_with (refine H.out.mono ?_; rintro e w1 ⟨rfl, hfr, hq⟩)
  have hk := keeps hS hfr
  have hfw := (frW2 S w).trans hfr
  refine leaves_cons (f := 38) (args := #[.pointer (some ⟨w.heap.size, 0, none⟩), .pointer (some ⟨w.heap.size + 1, 0, none⟩)]) (by simp) (by simp [go_sem]) ?_
  refine (closure_idle _ _ _ _ _ _ hk.1 hk.2).mono ?_
  rintro e u' w2 ⟨rfl, rfl, w3, hb, rfl⟩
  have l1 := lt_of_block hk.1
  have l2 := lt_of_block hk.2
  have hb' := below_three (x := .int .i64 0) (y := .int .i64 0) (z := .bool false) hb (Nat.le_of_lt l1)
  obtain ⟨r1, r2, r3⟩ := read_three (x := .int .i64 0) (y := .int .i64 0) (z := .bool false) ((hb.block _ l1).trans hk.1) ((hb.block _ l2).trans hk.2)
  exact ⟨_, by simp [results, Try.results34, go_sem, r1, r2, r3], rfl, hfw.then (Fr.of_below (S := fun k => w.heap.size ≤ k) hb' fun k h1 h2 => h1) (fun k h1 h2 => absurd h1 (by omega)), w1, hfr, hq, fr_three hb l2 _ _ _⟩

theorem catchG_fault (F : FuncId) (first cap : Array Value) (w : World) (x c : Int) (S : Nat → Prop) (hS : ∀ k, S k → k < w.heap.size) (Q : World → Prop) (hF : Enters F)
    (hf : Calls Try.prog F (first ++ cap) (W2 w) fun e w1 => e = .panicked [fault x c] ∧ Fr S (W2 w) w1 ∧ Q w1) :
    Calls Try.prog 34 #[.func (.func F) first cap] w fun e w' => e = .returned (.tuple #[.agg #[.int .i64 x, .int .i64 c], .bool true]) ∧ Fr S w w' ∧ ∃ w1, Fr S (W2 w) w1 ∧ Q w1 ∧ Fr (fun k => w.heap.size ≤ k ∧ k < w.heap.size + 2) w1 w' := by
  have hmf : ∀ (fn : Fn) (first cap : Array Value) (w : World), (Instr.makeFunc fn first cap).run Try.prog w = .ok (.func fn first cap) w := fun _ _ _ _ => rfl
  have H := Lib.hid hf
  unfold Enters at hF
  clear hf
  go_enter_defers Try.func34, Try.ntmps34
  go_wp2_with (refine H.out.mono ?_; rintro e w1 ⟨rfl, hfr, hq⟩)
  have hk := keeps hS hfr
  have hfw := (frW2 S w).trans hfr
  refine leaves_cons (f := 38) (args := #[.pointer (some ⟨w.heap.size, 0, none⟩), .pointer (some ⟨w.heap.size + 1, 0, none⟩)]) (by simp) (by simp [go_sem]) ?_
  refine (closure_fault _ _ _ _ _ _ _ _ _ hk.1 hk.2).mono ?_
  rintro e u' w2 ⟨rfl, rfl, w3, hb, rfl⟩
  have l1 := lt_of_block hk.1
  have l2 := lt_of_block hk.2
  have hb' := below_three (x := .int .i64 x) (y := .int .i64 c) (z := .bool true) hb (Nat.le_of_lt l1)
  obtain ⟨r1, r2, r3⟩ := read_three (x := .int .i64 x) (y := .int .i64 c) (z := .bool true) ((hb.block _ l1).trans hk.1) ((hb.block _ l2).trans hk.2)
  exact ⟨_, by simp [results, Try.results34, go_sem, r1, r2, r3], rfl, hfw.then (Fr.of_below (S := fun k => w.heap.size ≤ k) hb' fun k h1 h2 => h1) (fun k h1 h2 => absurd h1 (by omega)), w1, hfr, hq, fr_three hb l2 _ _ _⟩

/-- The call of function F, in w and in every world that has more blocks than w: how it ends, which blocks it may turn, what is true behind it. -/
def RunsG (F : FuncId) (args : Array Value) (w : World) (S : Nat → Prop) (E : Ending) (Q : World → World → Prop) : Prop :=
  ∀ W, Fr Nil w W → Calls Try.prog F args W fun e w1 => e = E ∧ Fr S W w1 ∧ Q W w1

/-- What is true behind Catch: the function was called in W, it left w1, and behind it only blocks turned that lay in W and not in w. -/
def Left (w : World) (S : Nat → Prop) (Q : World → World → Prop) (w' : World) : Prop := ∃ W w1, Fr Nil w W ∧ Fr S W w1 ∧ Q W w1 ∧ Fr (fun k => w.heap.size ≤ k ∧ k < W.heap.size) w1 w'

section
variable {F : FuncId} {first cap : Array Value} {w : World} {S : Nat → Prop} {Q : World → World → Prop}

theorem Catch_with {x c : Int} {b : Bool} (hS : ∀ k, S k → k < w.heap.size) (Q0 : World → Prop)
    (hf : Calls Try.prog 34 #[.func (.func F) first cap] (w.alloc (.cells #[.int .i64 0, .int .i64 0] 60)) fun e w' => e = .returned (.tuple #[.agg #[.int .i64 x, .int .i64 c], .bool b]) ∧ Fr S (w.alloc (.cells #[.int .i64 0, .int .i64 0] 60)) w' ∧ Q0 w') :
    Calls Try.prog 32 #[.func (.func F) first cap] w fun e w' => e = .returned (.tuple #[.agg #[.int .i64 x, .int .i64 c], .bool b]) ∧ Fr S w w' ∧ ∃ w1, Q0 w1 ∧ Fr (fun k => k = w.heap.size) w1 w' := by
  have H := Lib.hid hf
  have HS := Lib.hid hS
  clear hf hS
  go_enter Try.func32, Try.ntmps32
  go_wp2_with (go_at_call 34; refine H.out.mono ?_; rintro e w1 ⟨rfl, hfr, hq⟩; have hk := (Bk.new w _ _).fr hfr (fun s => absurd (HS.out _ s) (Nat.lt_irrefl _)); obtain ⟨c1, c2, f1, f2⟩ := hk.c2)
  have hk := (Bk.new w _ _).fr hfr (fun s => absurd (HS.out _ s) (Nat.lt_irrefl _))
  obtain ⟨c1, c2, f1, f2⟩ := ((hk.put 0 (.int .i64 x)).put 1 (.int .i64 c)).c2
  refine bodyPost_ret (v := .tuple #[.agg #[.int .i64 x, .int .i64 c], .bool b]) (by simp [results, Try.results32, go_sem, c1, c2]) rfl ⟨rfl, ?_, w1, hq, ?_⟩
  · exact (((((Fr.refl S w).alloc _).trans hfr).setCell (fun h => absurd h (Nat.lt_irrefl _)) _).setCell (fun h => absurd h (Nat.lt_irrefl _)) _)
  · exact ((Fr.refl (fun k => k = w.heap.size) w1).setCell (p := ⟨w.heap.size, 0, none⟩) (fun _ => rfl) _).setCell (p := ⟨w.heap.size, 1, none⟩) (fun _ => rfl) _

theorem frA (w : World) (o : Obj) : Fr Nil w (W2 (w.alloc o)) := ((Fr.refl _ w).alloc o).trans (frW2 Nil _)

theorem CatchG_ret (hS : ∀ k, S k → k < w.heap.size) (hF : Enters F) (h : RunsG F (first ++ cap) w S (.returned (.tuple #[])) Q) :
    Calls Try.prog 32 #[.func (.func F) first cap] w fun e w' => e = .returned (.tuple #[.agg #[.int .i64 0, .int .i64 0], .bool false]) ∧ Fr S w w' ∧ Left w S Q w' := by
  have hc := catchG_ret F first cap (w.alloc (.cells #[.int .i64 0, .int .i64 0] 60)) S (fun k s => Nat.lt_trans (hS k s) (by simp)) (Q (W2 (w.alloc (.cells #[.int .i64 0, .int .i64 0] 60)))) hF (h _ (frA _ _))
  refine (Catch_with hS _ hc).mono ?_
  rintro e w' ⟨he, hf, w2, ⟨w1, h0, h1, h2⟩, h3⟩
  refine ⟨he, hf, _, w1, frA _ _, h0, h1, (h2.mono fun k hk _ => ?_).trans (h3.mono fun k hk _ => ?_)⟩
  · simp [W2] at hk ⊢; omega
  · simp [W2] at hk ⊢; omega
theorem CatchG_fault {x c : Int} (hS : ∀ k, S k → k < w.heap.size) (hF : Enters F) (h : RunsG F (first ++ cap) w S (.panicked [fault x c]) Q) :
    Calls Try.prog 32 #[.func (.func F) first cap] w fun e w' => e = .returned (.tuple #[.agg #[.int .i64 x, .int .i64 c], .bool true]) ∧ Fr S w w' ∧ Left w S Q w' := by
  have hc := catchG_fault F first cap (w.alloc (.cells #[.int .i64 0, .int .i64 0] 60)) x c S (fun k s => Nat.lt_trans (hS k s) (by simp)) (Q (W2 (w.alloc (.cells #[.int .i64 0, .int .i64 0] 60)))) hF (h _ (frA _ _))
  refine (Catch_with hS _ hc).mono ?_
  rintro e w' ⟨he, hf, w2, ⟨w1, h0, h1, h2⟩, h3⟩
  refine ⟨he, hf, _, w1, frA _ _, h0, h1, (h2.mono fun k hk _ => ?_).trans (h3.mono fun k hk _ => ?_)⟩
  · simp [W2] at hk ⊢; omega
  · simp [W2] at hk ⊢; omega
end
end Go.Proofs.Ytemofdbepalnkaa.TrapG
