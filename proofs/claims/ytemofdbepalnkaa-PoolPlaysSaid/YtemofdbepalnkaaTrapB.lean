/- Contracts of package trap: catch and Catch, of any function value whose contract is known. -/
import Derived.Test.YtemofdbepalnkaaTrapA
import Derived.Test.YtemofdbepalnkaaBase
import Derived.Lib.Hide
namespace Go.Proofs.Ytemofdbepalnkaa.TrapB
set_option linter.unusedVariables false
open Go.RowKit TrapA Base

/-- The deferred closure in a frame that returns. -/
theorem closure_idle (n m : Nat) (w : World) (y z : Value) (b : Bool) (hn : w.heap[n]? = some (.cells #[y, z] 60 (0, 0))) (hm : w.heap[m]? = some (.cells #[.bool b] 4 (0, 0))) :
    CallsD Try.prog 38 #[.pointer (some ⟨n, 0, none⟩), .pointer (some ⟨m, 0, none⟩)] .returning w fun e u' w' =>
      e = .returned (.tuple #[]) ∧ u' = .returning ∧ ∃ w1, Below w.heap.size w w1 ∧
        w' = (((w1.setCell ⟨n, 0, none⟩ (.int .i64 0)).setCell ⟨n, 1, none⟩ (.int .i64 0)).setCell ⟨m, 0, none⟩ (.bool false)) := by
  refine callsD_of_wpS Try.func38 rfl fun c₀ cs hu => ?_
  have f1 := free_of_one hm
  have f2 : w.frozen? ⟨n, 0, none⟩ = false := by simp [World.frozen?, hn]
  have f3 : w.frozen? ⟨n, 1, none⟩ = false := by simp [World.frozen?, hn]
  have c1 := cell_of_one hm
  have c2 : w.cell? ⟨n, 0, none⟩ = some y := by simp [World.cell?, hn]
  have c3 : w.cell? ⟨n, 1, none⟩ = some z := by simp [World.cell?, hn]
  have ln := lt_of_block hn
  have lm := lt_of_block hm
  have hne : ¬ n = m := by rintro rfl; rw [hn] at hm; simp at hm
  have hne' : ¬ m = n := fun e => hne e.symm
  refine Recov.region_recover (cs' := c₀ :: cs) rfl ?_ .nilIface ?_ ?_ ?_
  · simp [go_sem]
  · simp [recoverD, hu]
  · intro a w h
    simp [bodyPostS] at h
  · simp only [Try.ntmps38, List.size_toArray, List.length_cons, List.length_nil, Nat.reduceAdd, Nat.reduceSub, Array.replicate_succ, Array.replicate_zero, List.push_toArray, List.append_toArray, List.nil_append, List.cons_append]
    go_wp2_with (go_at_call 39; refine (caught_nil _).mono ?_; rintro e w1 ⟨rfl, hb⟩; have d1 := (hb.frozen (p := ⟨n, 0, none⟩) ln).trans f2; have d2 := (hb.frozen (p := ⟨n, 1, none⟩) ln).trans f3; have d3 := (hb.frozen (p := ⟨m, 0, none⟩) lm).trans f1; have e1 := (hb.cell (p := ⟨n, 0, none⟩) ln).trans c2; have e2 := (hb.cell (p := ⟨n, 1, none⟩) ln).trans c3; have e3 := (hb.cell (p := ⟨m, 0, none⟩) lm).trans c1)
    have hc : ({ c₀ with mode := .returning } : Frame) = c₀ := by rw [← hu]
    exact ⟨rfl, .returning, by rw [hc], .tuple #[], by simp [results, Try.results38, go_sem], rfl, rfl, w1, hb, rfl⟩

/-- The world in which catch calls what it was handed. -/
def W2 (w : World) : World := (w.alloc (.cells #[.int .i64 0, .int .i64 0] 60)).alloc (.cells #[.bool false] 4)
theorem below_three {n : Nat} {w1 w2 : World} {x y z : Value} (h : Below w1.heap.size w1 w2) (hn : n ≤ w1.heap.size) : Below n w1 (((w2.setCell ⟨n, 0, none⟩ x).setCell ⟨n, 1, none⟩ y).setCell ⟨n + 1, 0, none⟩ z) :=
  (((h.mono hn).setCell (Nat.le_refl _) _).setCell (Nat.le_refl _) _).setCell (Nat.le_succ _) _

theorem read_three {n : Nat} {w : World} {a b c x y z : Value} {t u : TypeId} (hn : w.heap[n]? = some (.cells #[a, b] t (0, 0))) (hm : w.heap[n + 1]? = some (.cells #[c] u (0, 0))) :
    (((w.setCell ⟨n, 0, none⟩ x).setCell ⟨n, 1, none⟩ y).setCell ⟨n + 1, 0, none⟩ z).cell? ⟨n, 0, none⟩ = some x ∧
    (((w.setCell ⟨n, 0, none⟩ x).setCell ⟨n, 1, none⟩ y).setCell ⟨n + 1, 0, none⟩ z).cell? ⟨n, 1, none⟩ = some y ∧
    (((w.setCell ⟨n, 0, none⟩ x).setCell ⟨n, 1, none⟩ y).setCell ⟨n + 1, 0, none⟩ z).cell? ⟨n + 1, 0, none⟩ = some z := by
  refine ⟨?_, ?_, ?_⟩ <;> simp [World.cell?, World.setCell, Array.getElem?_modify, hn, hm]

theorem frW2 (S : Nat → Prop) (w : World) : Fr S w (W2 w) := ((Fr.refl S w).alloc _).alloc _
theorem keeps {S : Nat → Prop} {w w1 : World} (hS : ∀ k, S k → k < w.heap.size) (h : Fr S (W2 w) w1) :
    Bk w1 w.heap.size 60 #[.int .i64 0, .int .i64 0] ∧ Bk w1 (w.heap.size + 1) 4 #[.bool false] := by
  refine ⟨Bk.fr (((Bk.new _ _ _).alloc _)) h (fun s => by have := hS _ s; omega), Bk.fr (w := W2 w) ?_ h (fun s => by have := hS _ s; omega)⟩
  have := Bk.new (w.alloc (.cells #[.int .i64 0, .int .i64 0] 60)) 4 #[.bool false]
  simpa [W2] using this

/-- Function number F is entered where it is called. -/
def Enters (F : FuncId) : Prop := ∀ (args : Array Value) (w : World), (callFunc F args).run Try.prog w = .ok (.enter F args) w

theorem catch_ret (F : FuncId) (first cap : Array Value) (w : World) (S : Nat → Prop) (hS : ∀ k, S k → k < w.heap.size) (Q : World → Prop) (hF : Enters F)
    (hf : Calls Try.prog F (first ++ cap) (W2 w) fun e w1 => e = .returned (.tuple #[]) ∧ Fr S (W2 w) w1 ∧ Q w1) :
    Calls Try.prog 34 #[.func (.func F) first cap] w fun e w' => e = .returned (.tuple #[.agg #[.int .i64 0, .int .i64 0], .bool false]) ∧ Fr S w w' ∧ ∃ w1, Q w1 ∧ Below w.heap.size w1 w' := by
  have hmf : ∀ (fn : Fn) (first cap : Array Value) (w : World), (Instr.makeFunc fn first cap).run Try.prog w = .ok (.func fn first cap) w := fun _ _ _ _ => rfl
  have H := Lib.hid hf
  unfold Enters at hF
  clear hf
  go_enter_defers Try.func34, Try.ntmps34
  go_wp2_with (refine H.out.mono ?_; rintro e w1 ⟨rfl, hfr, hq⟩)
  have hk := keeps hS hfr
  have hfw := (frW2 S w).trans hfr
  refine leaves_cons (f := 38) (args := #[.pointer (some ⟨w.heap.size, 0, none⟩), .pointer (some ⟨w.heap.size + 1, 0, none⟩)]) (by simp) (by simp [go_sem]) ?_
  refine (closure_idle _ _ _ _ _ _ hk.1 hk.2).mono ?_
  rintro e u' w2 ⟨rfl, rfl, w3, hb, rfl⟩
  have l1 := lt_of_block hk.1
  have l2 := lt_of_block hk.2
  have hb' := below_three (x := .int .i64 0) (y := .int .i64 0) (z := .bool false) hb (Nat.le_of_lt l1)
  obtain ⟨r1, r2, r3⟩ := read_three (x := .int .i64 0) (y := .int .i64 0) (z := .bool false) ((hb.block _ l1).trans hk.1) ((hb.block _ l2).trans hk.2)
  exact ⟨_, by simp [results, Try.results34, go_sem, r1, r2, r3], rfl, hfw.then (Fr.of_below (S := fun k => w.heap.size ≤ k) hb' fun k h1 h2 => h1) (fun k h1 h2 => absurd h1 (by omega)), w1, hq, hb'⟩

theorem catch_fault (F : FuncId) (first cap : Array Value) (w : World) (x c : Int) (S : Nat → Prop) (hS : ∀ k, S k → k < w.heap.size) (Q : World → Prop) (hF : Enters F)
    (hf : Calls Try.prog F (first ++ cap) (W2 w) fun e w1 => e = .panicked [fault x c] ∧ Fr S (W2 w) w1 ∧ Q w1) :
    Calls Try.prog 34 #[.func (.func F) first cap] w fun e w' => e = .returned (.tuple #[.agg #[.int .i64 x, .int .i64 c], .bool true]) ∧ Fr S w w' ∧ ∃ w1, Q w1 ∧ Below w.heap.size w1 w' := by
  have hmf : ∀ (fn : Fn) (first cap : Array Value) (w : World), (Instr.makeFunc fn first cap).run Try.prog w = .ok (.func fn first cap) w := fun _ _ _ _ => rfl
  have H := Lib.hid hf
  unfold Enters at hF
  clear hf
  go_enter_defers Try.func34, Try.ntmps34
  go_wp2_with (refine H.out.mono ?_; rintro e w1 ⟨rfl, hfr, hq⟩)
  have hk := keeps hS hfr
  have hfw := (frW2 S w).trans hfr
  refine leaves_cons (f := 38) (args := #[.pointer (some ⟨w.heap.size, 0, none⟩), .pointer (some ⟨w.heap.size + 1, 0, none⟩)]) (by simp) (by simp [go_sem]) ?_
  refine (closure_fault _ _ _ _ _ _ _ _ _ hk.1 hk.2).mono ?_
  rintro e u' w2 ⟨rfl, rfl, w3, hb, rfl⟩
  have l1 := lt_of_block hk.1
  have l2 := lt_of_block hk.2
  have hb' := below_three (x := .int .i64 x) (y := .int .i64 c) (z := .bool true) hb (Nat.le_of_lt l1)
  obtain ⟨r1, r2, r3⟩ := read_three (x := .int .i64 x) (y := .int .i64 c) (z := .bool true) ((hb.block _ l1).trans hk.1) ((hb.block _ l2).trans hk.2)
  exact ⟨_, by simp [results, Try.results34, go_sem, r1, r2, r3], rfl, hfw.then (Fr.of_below (S := fun k => w.heap.size ≤ k) hb' fun k h1 h2 => h1) (fun k h1 h2 => absurd h1 (by omega)), w1, hq, hb'⟩

/-- The call of function F, in w and in every world that has more blocks than w: how it ends, which blocks it may turn, what is true behind it. -/
def Runs (F : FuncId) (args : Array Value) (w : World) (S : Nat → Prop) (E : Ending) (Q : World → Prop) : Prop :=
  ∀ W, Fr Nil w W → Calls Try.prog F args W fun e w1 => e = E ∧ Fr S W w1 ∧ Q w1

theorem Runs.at {F : FuncId} {args : Array Value} {w W : World} {S : Nat → Prop} {E : Ending} {Q : World → Prop} (h : Runs F args w S E Q) (hW : Fr Nil w W) : Runs F args W S E Q :=
  fun W' h' => h W' (hW.trans h')

theorem frNil2 (w : World) : Fr Nil w (W2 w) := frW2 Nil w

section
variable {F : FuncId} {first cap : Array Value} {w : World} {S : Nat → Prop} {Q : World → Prop}

theorem ccatch_ret (hS : ∀ k, S k → k < w.heap.size) (hQ : ∀ a b, Below w.heap.size a b → Q a → Q b) (hF : Enters F) (h : Runs F (first ++ cap) w S (.returned (.tuple #[])) Q) :
    Calls Try.prog 34 #[.func (.func F) first cap] w fun e w' => e = .returned (.tuple #[.agg #[.int .i64 0, .int .i64 0], .bool false]) ∧ Fr S w w' ∧ Q w' :=
  (catch_ret F first cap w S hS Q hF (h _ (frNil2 w))).mono fun _ _ ⟨he, hfr, _, hq, hb⟩ => ⟨he, hfr, hQ _ _ hb hq⟩

theorem ccatch_fault {x c : Int} (hS : ∀ k, S k → k < w.heap.size) (hQ : ∀ a b, Below w.heap.size a b → Q a → Q b) (hF : Enters F) (h : Runs F (first ++ cap) w S (.panicked [fault x c]) Q) :
    Calls Try.prog 34 #[.func (.func F) first cap] w fun e w' => e = .returned (.tuple #[.agg #[.int .i64 x, .int .i64 c], .bool true]) ∧ Fr S w w' ∧ Q w' :=
  (catch_fault F first cap w x c S hS Q hF (h _ (frNil2 w))).mono fun _ _ ⟨he, hfr, _, hq, hb⟩ => ⟨he, hfr, hQ _ _ hb hq⟩

theorem Catch_of {x c : Int} {b : Bool} (hS : ∀ k, S k → k < w.heap.size) (hQ : ∀ a b, Below w.heap.size a b → Q a → Q b)
    (hf : ∀ W, Fr Nil w W → Calls Try.prog 34 #[.func (.func F) first cap] W fun e w' => e = .returned (.tuple #[.agg #[.int .i64 x, .int .i64 c], .bool b]) ∧ Fr S W w' ∧ Q w') :
    Calls Try.prog 32 #[.func (.func F) first cap] w fun e w' => e = .returned (.tuple #[.agg #[.int .i64 x, .int .i64 c], .bool b]) ∧ Fr S w w' ∧ Q w' := by
  have H := Lib.hid (hf (w.alloc (.cells #[.int .i64 0, .int .i64 0] 60)) ((Fr.refl _ w).alloc _))
  have HQ := Lib.hid hQ
  have HS := Lib.hid hS
  clear hf hQ hS
  go_enter Try.func32, Try.ntmps32
  go_wp2_with (go_at_call 34; refine H.out.mono ?_; rintro e w1 ⟨rfl, hfr, hq⟩; have hk := (Bk.new w _ _).fr hfr (fun s => absurd (HS.out _ s) (Nat.lt_irrefl _)); obtain ⟨c1, c2, f1, f2⟩ := hk.c2)
  have hk := (Bk.new w _ _).fr hfr (fun s => absurd (HS.out _ s) (Nat.lt_irrefl _))
  obtain ⟨c1, c2, f1, f2⟩ := ((hk.put 0 (.int .i64 x)).put 1 (.int .i64 c)).c2
  refine bodyPost_ret (v := .tuple #[.agg #[.int .i64 x, .int .i64 c], .bool b]) (by simp [results, Try.results32, go_sem, c1, c2]) rfl ⟨rfl, ?_, HQ.out _ _ ?_ hq⟩
  · exact (((((Fr.refl S w).alloc _).trans hfr).setCell (fun h => absurd h (Nat.lt_irrefl _)) _).setCell (fun h => absurd h (Nat.lt_irrefl _)) _)
  · exact ((Below.refl w.heap.size w1).setCell (p := ⟨w.heap.size, 0, none⟩) (Nat.le_refl _) _).setCell (p := ⟨w.heap.size, 1, none⟩) (Nat.le_refl _) _

theorem Catch_ret (hS : ∀ k, S k → k < w.heap.size) (hQ : ∀ a b, Below w.heap.size a b → Q a → Q b) (hF : Enters F) (h : Runs F (first ++ cap) w S (.returned (.tuple #[])) Q) :
    Calls Try.prog 32 #[.func (.func F) first cap] w fun e w' => e = .returned (.tuple #[.agg #[.int .i64 0, .int .i64 0], .bool false]) ∧ Fr S w w' ∧ Q w' :=
  Catch_of hS hQ fun W hW => ccatch_ret (fun k s => Nat.lt_of_lt_of_le (hS k s) hW.size) (fun a b hb => hQ a b (hb.mono hW.size)) hF (h.at hW)
theorem Catch_fault {x c : Int} (hS : ∀ k, S k → k < w.heap.size) (hQ : ∀ a b, Below w.heap.size a b → Q a → Q b) (hF : Enters F) (h : Runs F (first ++ cap) w S (.panicked [fault x c]) Q) :
    Calls Try.prog 32 #[.func (.func F) first cap] w fun e w' => e = .returned (.tuple #[.agg #[.int .i64 x, .int .i64 c], .bool true]) ∧ Fr S w w' ∧ Q w' :=
  Catch_of hS hQ fun W hW => ccatch_fault (fun k s => Nat.lt_of_lt_of_le (hS k s) hW.size) (fun a b hb => hQ a b (hb.mono hW.size)) hF (h.at hW)
end
end Go.Proofs.Ytemofdbepalnkaa.TrapB
