/- Chapter 5: the walks of Must, take, index. -/
import Derived.Test.YtendhgnhncnabaaFiveF
namespace Go.Proofs.Ytendhgnhncnabaa.FiveI
open Go.RowKit TrapA TrapB Base FiveA FiveB FiveC FiveD FiveE FiveF
set_option linter.unusedVariables false
set_option linter.unusedSimpArgs false

theorem Must_ok (v : Int) (w : World) : Calls Try.prog 23 #[.int .i64 v, .int .i64 0] w fun e w' => e = .returned (.int .i64 v) ∧ w = w' := by
  go_enter Try.func23, Try.ntmps23
  go_wp2_with (go_at_call 30; refine (throw_ok _ _).mono ?_; rintro e w' ⟨rfl, rfl⟩)
  go_ret
  exact ⟨rfl, rfl⟩

theorem Must_bad (v c : Int) (hc : (c != 0) = true) (w : World) : Calls Try.prog 23 #[.int .i64 v, .int .i64 c] w fun e w' => e = .panicked [fault 0 c] ∧ w = w' := by
  go_enter Try.func23, Try.ntmps23
  go_wp2_with (go_at_call 30; refine (throw_bad _ _ hc _).mono ?_; rintro e w' ⟨rfl, rfl⟩)
  exact ⟨rfl, rfl, rfl⟩

set_option maxHeartbeats 400000 in
theorem take_ok (g : Nat) (v : Int) (sl x o : Value) (w : World) (hb : Bk w g 39 #[.int .i64 v, .int .i64 0, sl, x, o]) :
    Calls Try.prog 14 #[.pointer (some ⟨g, 0, none⟩)] w fun e w' => e = .returned (.tuple #[]) ∧ Fr (· = g) w w' ∧ Bk w' g 39 #[.int .i64 v, .int .i64 0, sl, x, .int .i64 v] := by
  obtain ⟨c0, c1, c2, c3, c4, f0, f1, f2, f3, f4⟩ := hb.c5
  go_enter Try.func14, Try.ntmps14
  go_region_held3 (fun w' => w'.cell? ⟨g, 0, none⟩ = some (.int .i64 v) ∧ w'.cell? ⟨g, 1, none⟩ = some (.int .i64 0)) (first | (go_keep; done) | exact ⟨(hb.put 4 (.int .i64 v)).drew.cell 0, (hb.put 4 (.int .i64 v)).drew.cell 1⟩)
    (first | (go_at_call 23; refine (Must_ok _ _).mono ?_; rintro e w' ⟨rfl, rfl⟩))
  go_end0
  exact ⟨rfl, ((Fr.refl (· = g) w).setCell (p := ⟨g, 4, none⟩) (fun _ => rfl) _).drew, (hb.put 4 (.int .i64 v)).drew⟩

set_option maxHeartbeats 4000000 in
theorem take_bad (g : Nat) (v c : Int) (hc : (c != 0) = true) (sl x o : Value) (w : World) (hb : Bk w g 39 #[.int .i64 v, .int .i64 c, sl, x, o]) :
    Calls Try.prog 14 #[.pointer (some ⟨g, 0, none⟩)] w fun e w' => e = .panicked [fault 0 c] ∧ Fr Nil w w' := by
  obtain ⟨c0, c1, c2, c3, c4, f0, f1, f2, f3, f4⟩ := hb.c5
  have HC := Lib.hid hc
  clear hc
  obtain ⟨y, hy⟩ : ∃ y, w.cell? ⟨g, 4, none⟩ = some y := ⟨_, c4⟩
  go_enter Try.func14, Try.ntmps14
  go_region_with (first | (go_at_call 23; refine (orFalse (.int .i64 0) (Must_bad _ _ HC.out _)).mono ?_; rintro e w' (⟨rfl, rfl⟩ | ⟨hF, rfl, rfl⟩); exact ⟨rfl, rfl, (Fr.refl _ w).drew⟩))
  all_goals exact hF.out.elim

set_option maxHeartbeats 400000 in
theorem index_ok (g n cap : Nat) (a : Addr) (i y : Int) (v c o : Value) (w : World) (hb : Bk w g 39 #[v, c, .slice (some a) n cap, .int .i64 i, o]) (h0 : 0 ≤ i) (hi : i < n) (hn : n ≤ 50) (hc : w.cell? (a.add i.toNat) = some (.int .i64 y)) (hag : a.block ≠ g) :
    Calls Try.prog 15 #[.pointer (some ⟨g, 0, none⟩)] w fun e w' => e = .returned (.tuple #[]) ∧ Fr (· = g) w w' ∧ Bk w' g 39 #[v, c, .slice (some a) n cap, .int .i64 i, .int .i64 y] := by
  obtain ⟨c0, c1, c2, c3, c4, f0, f1, f2, f3, f4⟩ := hb.c5
  have HC := Lib.hid hc
  have HI := Lib.hid (And.intro h0 hi)
  clear hc h0 hi
  go_enter Try.func15, Try.ntmps15
  go_region_held3 (fun w' => w'.cell? ⟨g, 2, none⟩ = some (.slice (some a) n cap) ∧ w'.cell? ⟨g, 3, none⟩ = some (.int .i64 i)) (first | (go_keep; done) | exact ⟨(hb.put 4 (.int .i64 y)).drew.cell 2, (hb.put 4 (.int .i64 y)).drew.cell 3⟩)
    (first | (go_at_call 24; refine (TrapEInt.Index_ok _ _ _ _ y _ HI.out.1 HI.out.2 (by omega) ?_).mono ?_; exact HC.out; rintro e w' ⟨rfl, rfl⟩))
  go_end0
  exact ⟨rfl, ((Fr.refl (· = g) w).setCell (p := ⟨g, 4, none⟩) (fun _ => rfl) _).drew, (hb.put 4 (.int .i64 y)).drew⟩

set_option maxHeartbeats 4000000 in
theorem index_bad (g n cap : Nat) (A : Option Addr) (i : Int) (v c o : Value) (w : World) (hb : Bk w g 39 #[v, c, .slice A n cap, .int .i64 i, o]) (hi : i < 0 ∨ n ≤ i) (hn : n ≤ 50) :
    Calls Try.prog 15 #[.pointer (some ⟨g, 0, none⟩)] w fun e w' => e = .panicked [fault 0 1] ∧ Fr Nil w w' := by
  obtain ⟨c0, c1, c2, c3, c4, f0, f1, f2, f3, f4⟩ := hb.c5
  have HI := Lib.hid hi
  clear hi
  go_enter Try.func15, Try.ntmps15
  go_region_with (first | (go_at_call 24; refine (orFalse (.int .i64 0) (TrapEInt.Index_bad _ _ _ _ _ HI.out (by omega))).mono ?_; rintro e w' (⟨rfl, rfl⟩ | ⟨hF, rfl, rfl⟩); exact ⟨rfl, rfl, (Fr.refl _ w).drew⟩))
  all_goals exact hF.out.elim
end Go.Proofs.Ytendhgnhncnabaa.FiveI
