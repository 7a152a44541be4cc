/- Chapter 2: the walk of compare (package wide). -/
import Derived.Test.YtalbaopfdejooaaWideM
import Derived.Deep.RegionHeld3
namespace Go.Proofs.Ytalbaopfdejooaa.WideN
open Go.RowKit Base WideA WideB WideF WideK
set_option linter.unusedVariables false
set_option linter.unusedSimpArgs false

set_option maxHeartbeats 2000000 in
theorem or_any (g : Nat) (t : TypeId) (a b : Int) (w : World) (h : Bk w g t #[.int .i64 a, .int .i64 b]) :
    Calls Try.prog 74 #[.slice (some ⟨g, 0, none⟩) 2 2] w fun e w' => e = .returned (.int .i64 (if a = 0 then b else a)) ∧ w' = w := by
  obtain ⟨k0, k1, f0, f1⟩ := h.c2
  by_cases ha : a = 0
  · rw [if_pos ha]
    go_enter Try.func74, Try.ntmps74
    go_wp2_with fail
    refine wp_loop_rounds 3 ?_
    rw [rounds_succ]
    go_wp2_with fail
    by_cases hb : b = 0
    · rw [rounds_succ]
      go_wp2_with fail
      rw [rounds_succ]
      go_wp2_with fail
      rw [hb]
      exact bodyPost_ret (v := .int .i64 _) (by simp [results, Try.results74, go_sem]) rfl ⟨rfl, rfl⟩
    · rw [rounds_succ]
      go_wp2_with fail
      exact bodyPost_ret (v := .int .i64 _) (by simp [results, Try.results74, go_sem]) rfl ⟨rfl, rfl⟩
  · rw [if_neg ha]
    go_enter Try.func74, Try.ntmps74
    go_wp2_with fail
    refine wp_loop_rounds 3 ?_
    rw [rounds_succ]
    go_wp2_with fail
    exact bodyPost_ret (v := .int .i64 _) (by simp [results, Try.results74, go_sem]) rfl ⟨rfl, rfl⟩
end Go.Proofs.Ytalbaopfdejooaa.WideN
