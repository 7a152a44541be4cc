/- Contracts of package trap: Index at int. -/
import Derived.Test.YtendhgnhncnabaaTrapA
namespace Go.Proofs.Ytendhgnhncnabaa.TrapEInt
open Go.RowKit TrapA
set_option linter.unusedVariables false
set_option linter.unusedSimpArgs false

theorem Index_ok (a : Addr) (n cap : Nat) (i v : Int) (w : World) (h0 : 0 ≤ i) (hi : i < n) (hn : n ≤ 9223372036854775807) (hc : w.cell? (a.add i.toNat) = some (.int .i64 v)) :
    Calls Try.prog 24 #[.slice (some a) n cap, .int .i64 i] w fun e w' => e = .returned (.int .i64 v) ∧ w = w' := by
  obtain ⟨k, rfl⟩ := Int.eq_ofNat_of_zero_le h0
  rw [Int.toNat_natCast] at hc
  go_enter Try.func24, Try.ntmps24
  go_wp2
  go_ret
  exact ⟨rfl, rfl⟩

theorem Index_bad (a : Option Addr) (n cap : Nat) (i : Int) (w : World) (hi : i < 0 ∨ n ≤ i) (hn : n ≤ 9223372036854775807) :
    Calls Try.prog 24 #[.slice a n cap, .int .i64 i] w fun e w' => e = .panicked [fault 0 1] ∧ w = w' := by
  rcases hi with hi | hi
  · go_enter Try.func24, Try.ntmps24
    go_wp2_with (go_at_call 30; refine (throw_bad 0 1 rfl _).mono ?_; rintro e w1 ⟨rfl, rfl⟩)
    exact ⟨rfl, rfl, rfl⟩
  · have h0 : 0 ≤ i := by omega
    go_enter Try.func24, Try.ntmps24
    go_wp2_with (go_at_call 30; refine (throw_bad 0 1 rfl _).mono ?_; rintro e w1 ⟨rfl, rfl⟩)
    exact ⟨rfl, rfl, rfl⟩
end Go.Proofs.Ytendhgnhncnabaa.TrapEInt
