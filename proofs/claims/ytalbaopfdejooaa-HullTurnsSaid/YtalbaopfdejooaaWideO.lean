/- Chapter 2: the walk of compare (package wide). -/
import Derived.Test.YtalbaopfdejooaaWideN
import Derived.Deep.RegionHeld3
namespace Go.Proofs.Ytalbaopfdejooaa.WideO
open Go.RowKit Base WideA WideB WideF WideK WideN
set_option linter.unusedVariables false
set_option linter.unusedSimpArgs false

/-- the first that is not 0 -/
def orI (a b : Int) : Int := if a = 0 then b else a

theorem or_named (g : Nat) (t : TypeId) (a b : Int) (w : World) (h : Bk w g t #[.int .i64 a, .int .i64 b]) :
    Calls Try.prog 74 #[.slice (some ⟨g, 0, none⟩) 2 2] w fun e w' => e = .returned (.int .i64 (orI a b)) ∧ w' = w := or_any g t a b w h

set_option maxHeartbeats 2000000 in
theorem compare_in (ah al bh bl : Int) (h1 : -9223372036854775808 ≤ ah ∧ ah ≤ 9223372036854775807) (h2 : 0 ≤ al ∧ al ≤ 18446744073709551615) (h3 : -9223372036854775808 ≤ bh ∧ bh ≤ 9223372036854775807) (h4 : 0 ≤ bl ∧ bl ≤ 18446744073709551615) (w : World) :
    Calls Try.prog 65 #[.agg #[.int .i64 ah, .int .u64 al], .agg #[.int .i64 bh, .int .u64 bl]] w fun e w' => e = .returned (.int .i64 (orI (cmpI ah bh) (cmpI al bl))) ∧ Fr Nil w w' := by
  have H1 := Lib.hid h1
  have H2 := Lib.hid h2
  have H3 := Lib.hid h3
  have H4 := Lib.hid h4
  clear h1 h2 h3 h4
  go_enter Try.func65, Try.ntmps65
  go_wp2_with fail
  go_region_held3 (fun w' => w'.cell? ⟨w.heap.size, 0, none⟩ = some (.int .i64 ah) ∧ w'.cell? ⟨w.heap.size, 1, none⟩ = some (.int .u64 al) ∧ w'.cell? ⟨w.heap.size + 1, 0, none⟩ = some (.int .i64 bh) ∧ w'.cell? ⟨w.heap.size + 1, 1, none⟩ = some (.int .u64 bl)) (first | (go_keep; done))
    (first | (go_at_call 75; refine (cmp_i64 _ _ _ H1.out H3.out).mono ?_; rintro e w' ⟨rfl, rfl⟩) | (go_at_call 76; refine (cmp_u64 _ _ _ H2.out H4.out).mono ?_; rintro e w' ⟨rfl, rfl⟩) | (go_at_call 74; refine (or_named _ 3 _ _ _ (by (repeat' (first | ((with_reducible refine new' ?_); simp; done) | with_reducible refine Bk.alloc ?_ _ | with_reducible refine Bk.far ?_ (by dsimp only; omega) _ | with_reducible refine Bk.drewN ?_ _ | with_reducible refine Bk.drew ?_)))).mono ?_; rintro e w' ⟨rfl, rfl⟩))
  go_wp2_with fail
  exact bodyPost_ret (v := .int .i64 (orI (cmpI ah bh) (cmpI al bl))) (by simp [results, Try.results65, go_sem]) rfl ⟨rfl, by (repeat' (with_reducible first | refine Fr.setCell ?_ (fun hlt => absurd hlt (by dsimp only; omega)) _ | refine Fr.alloc ?_ _ | refine Fr.drewN ?_ _ | refine Fr.drew ?_ | exact Fr.refl _ _))⟩
end Go.Proofs.Ytalbaopfdejooaa.WideO
