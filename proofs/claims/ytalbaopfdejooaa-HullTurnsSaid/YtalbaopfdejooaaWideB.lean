/- Chapter 2: the walks of the reference's functions on digits: Of, Long. -/
import Derived.Test.YtalbaopfdejooaaWideA
import Derived.Test.YtalbaopfdejooaaChecked
import Derived.WalkSpells
import Derived.WalkLawsBesides
import Derived.Lib.Hide
import Derived.Deep.QuietTactic
import Derived.BigQuiet
namespace Go.Proofs.Ytalbaopfdejooaa.WideB
open Go.RowKit Base WideA
set_option linter.unusedVariables false
set_option linter.unusedSimpArgs false

/-- the digits of n, as the reference holds them -/
def dcells (n : Int) : Array Value := #[.int .u64 (dg n 0), .int .u64 (dg n 1), .int .u64 (dg n 2), .int .u64 (dg n 3), .int .u64 (dg n 4), .int .u64 (dg n 5), .int .u64 (dg n 6), .int .u64 (dg n 7), .int .u64 (dg n 8)]

theorem new' {w : World} {g : Nat} {t : TypeId} {cs : Array Value} (h : g = w.heap.size) : Bk (w.alloc (.cells cs t)) g t cs := by
  subst h
  exact Bk.new w t cs

theorem dcells_of (hi lo u : Int) (hu : u = hi % 18446744073709551616) (h0 : -9223372036854775808 ≤ hi) (h1 : hi ≤ 9223372036854775807) (l0 : 0 ≤ lo) (l1 : lo ≤ 18446744073709551615) :
    dcells (hi * 18446744073709551616 + lo) = #[.int .u64 (lo % 65536), .int .u64 (lo / 65536 % 65536), .int .u64 (lo / 65536 / 65536 % 65536), .int .u64 (lo / 65536 / 65536 / 65536 % 65536), .int .u64 (u % 65536), .int .u64 (u / 65536 % 65536), .int .u64 (u / 65536 / 65536 % 65536), .int .u64 (u / 65536 / 65536 / 65536 % 65536), .int .u64 (if hi < 0 then 65535 else 0)] := by
  have e0 : dg (hi * 18446744073709551616 + lo) 0 = lo % 65536 := by simp only [dg, pw]; omega
  have e1 : dg (hi * 18446744073709551616 + lo) 1 = lo / 65536 % 65536 := by simp only [dg, pw]; omega
  have e2 : dg (hi * 18446744073709551616 + lo) 2 = lo / 65536 / 65536 % 65536 := by simp only [dg, pw]; omega
  have e3 : dg (hi * 18446744073709551616 + lo) 3 = lo / 65536 / 65536 / 65536 % 65536 := by simp only [dg, pw]; omega
  have e4 : dg (hi * 18446744073709551616 + lo) 4 = u % 65536 := by simp only [dg, pw]; omega
  have e5 : dg (hi * 18446744073709551616 + lo) 5 = u / 65536 % 65536 := by simp only [dg, pw]; omega
  have e6 : dg (hi * 18446744073709551616 + lo) 6 = u / 65536 / 65536 % 65536 := by simp only [dg, pw]; omega
  have e7 : dg (hi * 18446744073709551616 + lo) 7 = u / 65536 / 65536 / 65536 % 65536 := by simp only [dg, pw]; omega
  have e8 : dg (hi * 18446744073709551616 + lo) 8 = if hi < 0 then 65535 else 0 := by
    split <;> (simp only [dg, pw]; omega)
  unfold dcells
  rw [e0, e1, e2, e3, e4, e5, e6, e7, e8]

set_option maxHeartbeats 1000000 in
theorem of_any (hi lo : Int) (w : World) (h0 : -9223372036854775808 ≤ hi) (h1 : hi ≤ 9223372036854775807) (l0 : 0 ≤ lo) (l1 : lo ≤ 18446744073709551615) :
    Calls Try.prog 46 #[.agg #[.int .i64 hi, .int .u64 lo]] w fun e w' => e = .returned (.agg (dcells (hi * 18446744073709551616 + lo))) ∧ Fr Nil w w' := by
  rcases Int.lt_or_le hi 0 with hn | hn
  · obtain ⟨u, hu⟩ : ∃ u, u = hi + 18446744073709551616 := ⟨_, rfl⟩
    have hw : IntKind.u64.wrap hi = u := by
      rw [hu]; unfold IntKind.wrap; simp [IntKind.bits, IntKind.signed]; omega
    have u0 : 0 ≤ u := by omega
    have u1 : u ≤ 18446744073709551615 := by omega
    go_enter Try.func46, Try.ntmps46
    go_wp2_with fail
    go_quiet (fail)
    go_wp2_with fail
    try rw [hw]
    refine wp_loop_rounds 5 ?_
    rw [rounds_succ]
    go_wp2_with fail
    rw [rounds_succ]
    go_wp2_with fail
    rw [rounds_succ]
    go_wp2_with fail
    rw [rounds_succ]
    go_wp2_with fail
    rw [rounds_succ]
    go_wp2_with fail
    refine bodyPost_ret (v := .agg (dcells (hi * 18446744073709551616 + lo))) ?_ rfl ⟨rfl, ?_⟩
    · rw [dcells_of hi lo u (by omega) h0 h1 l0 l1, if_pos (by omega)]
      simp [results, Try.results46, go_sem]
      try (subst hu; exact ⟨rfl, rfl, rfl, rfl⟩)
    · (repeat' (with_reducible first | refine Fr.setCell ?_ (fun hlt => absurd hlt (by dsimp only; omega)) _ | refine Fr.alloc ?_ _ | refine Fr.drewN ?_ _ | refine Fr.drew ?_ | exact Fr.refl _ _))
  · go_enter Try.func46, Try.ntmps46
    go_wp2_with fail
    go_quiet (fail)
    go_wp2_with fail
    refine wp_loop_rounds 5 ?_
    rw [rounds_succ]
    go_wp2_with fail
    rw [rounds_succ]
    go_wp2_with fail
    rw [rounds_succ]
    go_wp2_with fail
    rw [rounds_succ]
    go_wp2_with fail
    rw [rounds_succ]
    go_wp2_with fail
    refine bodyPost_ret (v := .agg (dcells (hi * 18446744073709551616 + lo))) ?_ rfl ⟨rfl, ?_⟩
    · rw [dcells_of hi lo hi (by omega) h0 h1 l0 l1, if_neg (by omega)]
      simp [results, Try.results46, go_sem]
    · (repeat' (with_reducible first | refine Fr.setCell ?_ (fun hlt => absurd hlt (by dsimp only; omega)) _ | refine Fr.alloc ?_ _ | refine Fr.drewN ?_ _ | refine Fr.drew ?_ | exact Fr.refl _ _))
end Go.Proofs.Ytalbaopfdejooaa.WideB
