/- Contracts of package trap's leaves: throw, Throw, caught, catch's closure. -/
import Derived.Test.YtemofdbepalnkaaChecked
import Derived.WalkKit
import Derived.WalkSpells
import Derived.WalkLawsBesides
import Derived.Recover
import Derived.Test.YtemofdbepalnkaaRecov
namespace Go.Proofs.Ytemofdbepalnkaa.TrapA
open Go.RowKit

/-- a fault, as it is thrown -/
def fault (x c : Int) : PanicEntry := { v := .iface 60 (.agg #[.int .i64 x, .int .i64 c]), recovered := false }

theorem throw_ok (x : Int) (w : World) : Calls Try.prog 37 #[.int .i64 x, .int .i64 0] w fun e w' => e = .returned (.tuple #[]) ∧ w = w' := by
  go_enter Try.func37, Try.ntmps37
  go_wp2
  go_end0
  exact ⟨rfl, rfl⟩

theorem throw_bad (x c : Int) (h : (c != 0) = true) (w : World) : Calls Try.prog 37 #[.int .i64 x, .int .i64 c] w fun e w' => e = .panicked [fault x c] ∧ w = w' := by
  go_enter Try.func37, Try.ntmps37
  go_wp2
  exact ⟨rfl, rfl, rfl⟩

theorem Throw_ok (x : Int) (w : World) : Calls Try.prog 33 #[.int .i64 x, .int .i64 0] w fun e w' => e = .returned (.tuple #[]) ∧ w = w' := by
  go_enter Try.func33, Try.ntmps33
  go_wp2
  go_end0
  go_wp2
  go_end0
  exact ⟨rfl, rfl⟩

theorem Throw_bad (x c : Int) (h : (c != 0) = true) (w : World) : Calls Try.prog 33 #[.int .i64 x, .int .i64 c] w fun e w' => e = .panicked [fault x c] ∧ w = w' := by
  go_enter Try.func33, Try.ntmps33
  go_wp2_with (go_at_call 37; refine (throw_bad x c h w).mono ?_; rintro e w' ⟨rfl, rfl⟩)
  exact ⟨rfl, rfl, rfl⟩

theorem below_alloc (w : World) (o : Obj) : Below w.heap.size w (w.alloc o) := (Below.refl _ _).alloc (Nat.le_refl _) o

theorem caught_nil (w : World) : Calls Try.prog 39 #[.nilIface] w fun e w' => e = .returned (.tuple #[.agg #[.int .i64 0, .int .i64 0], .bool false]) ∧ Below w.heap.size w w' := by
  go_enter Try.func39, Try.ntmps39
  go_wp2
  exact bodyPost_ret (v := .tuple #[.agg #[.int .i64 0, .int .i64 0], .bool false]) (by simp [results, Try.results39, go_sem]) rfl ⟨rfl, below_alloc _ _⟩

theorem assert_fault (x c : Int) (w : World) : (Instr.typeAssert (.iface 60 (.agg #[.int .i64 x, .int .i64 c])) 20 60 true).run Try.prog w = .ok (.tuple #[.agg #[.int .i64 x, .int .i64 c], .bool true]) w := by kernel_rfl

theorem caught_fault (x c : Int) (w : World) : Calls Try.prog 39 #[(fault x c).v] w fun e w' => e = .returned (.tuple #[.agg #[.int .i64 x, .int .i64 c], .bool true]) ∧ Below w.heap.size w w' := by
  unfold fault
  have hta := assert_fault x c
  go_enter Try.func39, Try.ntmps39
  go_wp2
  exact bodyPost_ret (v := .tuple #[.agg #[.int .i64 x, .int .i64 c], .bool true]) (by simp [results, Try.results39, go_sem]) rfl ⟨rfl, ((below_alloc _ _).alloc (by simp) _)⟩

/-- The deferred closure in a frame that panics with a fault. -/
theorem closure_fault (n m : Nat) (x c : Int) (older : List PanicEntry) (w : World) (y z : Value) (b : Bool) (hn : w.heap[n]? = some (.cells #[y, z] 60 (0, 0))) (hm : w.heap[m]? = some (.cells #[.bool b] 4 (0, 0))) :
    CallsD Try.prog 38 #[.pointer (some ⟨n, 0, none⟩), .pointer (some ⟨m, 0, none⟩)] (.panicking (fault x c :: older)) w fun e u' w' =>
      e = .returned (.tuple #[]) ∧ u' = .panicking ({ fault x c with recovered := true } :: older) ∧ ∃ w1, Below w.heap.size w w1 ∧
        w' = (((w1.setCell ⟨n, 0, none⟩ (.int .i64 x)).setCell ⟨n, 1, none⟩ (.int .i64 c)).setCell ⟨m, 0, none⟩ (.bool true)) := by
  refine callsD_of_wpS Try.func38 rfl fun c₀ cs hu => ?_
  unfold fault at hu
  have f1 := free_of_one hm
  have f2 : w.frozen? ⟨n, 0, none⟩ = false := by simp [World.frozen?, hn]
  have f3 : w.frozen? ⟨n, 1, none⟩ = false := by simp [World.frozen?, hn]
  have c1 := cell_of_one hm
  have c2 : w.cell? ⟨n, 0, none⟩ = some y := by simp [World.cell?, hn]
  have c3 : w.cell? ⟨n, 1, none⟩ = some z := by simp [World.cell?, hn]
  have ln := lt_of_block hn
  have lm := lt_of_block hm
  have hne : ¬ n = m := by rintro rfl; rw [hn] at hm; simp at hm
  have hne' : ¬ m = n := fun e => hne e.symm
  refine Recov.region_recover (cs' := { c₀ with mode := .panicking ({ fault x c with recovered := true } :: older) } :: cs) rfl ?_ (fault x c).v ?_ ?_ ?_
  · simp [go_sem]
  · simp [recoverD, hu, fault]
  · intro a w h
    simp [bodyPostS] at h
  · simp only [Try.ntmps38, List.size_toArray, List.length_cons, List.length_nil, Nat.reduceAdd, Nat.reduceSub, Array.replicate_succ, Array.replicate_zero, List.push_toArray, List.append_toArray, List.nil_append, List.cons_append]
    go_wp2_with (go_at_call 39; refine (caught_fault x c _).mono ?_; rintro e w1 ⟨rfl, hb⟩; have d1 := (hb.frozen (p := ⟨n, 0, none⟩) ln).trans f2; have d2 := (hb.frozen (p := ⟨n, 1, none⟩) ln).trans f3; have d3 := (hb.frozen (p := ⟨m, 0, none⟩) lm).trans f1; have e1 := (hb.cell (p := ⟨n, 0, none⟩) ln).trans c2; have e2 := (hb.cell (p := ⟨n, 1, none⟩) ln).trans c3; have e3 := (hb.cell (p := ⟨m, 0, none⟩) lm).trans c1)
    exact ⟨rfl, _, rfl, .tuple #[], by simp [results, Try.results38, go_sem], rfl, rfl, w1, hb, rfl⟩
end Go.Proofs.Ytemofdbepalnkaa.TrapA
