/- Chapter 2: the walks of Long, Add. -/
import Derived.Test.YtalbaopfdejooaaWideB
namespace Go.Proofs.Ytalbaopfdejooaa.WideC
open Go.RowKit Base WideA WideB
set_option linter.unusedVariables false
set_option linter.unusedSimpArgs false

theorem step0 (m n : Int) : (dg m 0 + dg n 0) % 65536 = dg (m + n) 0 ∧ (dg m 0 + dg n 0) / 65536 = car m n 1 := by
  have h := car_step m n 0
  rw [car_zero, Int.add_zero] at h
  exact h

theorem c9 {w : World} {g : Nat} {t : TypeId} {x0 x1 x2 x3 x4 x5 x6 x7 x8 : Value} (h : Bk w g t #[x0, x1, x2, x3, x4, x5, x6, x7, x8]) : w.cell? ⟨g, 0, none⟩ = some x0 ∧ w.cell? ⟨g, 1, none⟩ = some x1 ∧ w.cell? ⟨g, 2, none⟩ = some x2 ∧ w.cell? ⟨g, 3, none⟩ = some x3 ∧ w.cell? ⟨g, 4, none⟩ = some x4 ∧ w.cell? ⟨g, 5, none⟩ = some x5 ∧ w.cell? ⟨g, 6, none⟩ = some x6 ∧ w.cell? ⟨g, 7, none⟩ = some x7 ∧ w.cell? ⟨g, 8, none⟩ = some x8 ∧ w.frozen? ⟨g, 0, none⟩ = false ∧ w.frozen? ⟨g, 1, none⟩ = false ∧ w.frozen? ⟨g, 2, none⟩ = false ∧ w.frozen? ⟨g, 3, none⟩ = false ∧ w.frozen? ⟨g, 4, none⟩ = false ∧ w.frozen? ⟨g, 5, none⟩ = false ∧ w.frozen? ⟨g, 6, none⟩ = false ∧ w.frozen? ⟨g, 7, none⟩ = false ∧ w.frozen? ⟨g, 8, none⟩ = false :=
  ⟨h.cell 0, h.cell 1, h.cell 2, h.cell 3, h.cell 4, h.cell 5, h.cell 6, h.cell 7, h.cell 8, h.frozen 0, h.frozen 1, h.frozen 2, h.frozen 3, h.frozen 4, h.frozen 5, h.frozen 6, h.frozen 7, h.frozen 8⟩

set_option maxHeartbeats 1000000 in
theorem long_any (a : Int) (w : World) (h0 : -9223372036854775808 ≤ a) (h1 : a ≤ 9223372036854775807) :
    Calls Try.prog 25 #[.int .i64 a] w fun e w' => e = .returned (.agg (dcells a)) ∧ Fr Nil w w' := by
  rcases Int.lt_or_le a 0 with hn | hn
  · obtain ⟨u, hu⟩ : ∃ u, a + 18446744073709551616 = u := ⟨_, rfl⟩
    have hw : IntKind.u64.wrap a = u := by
      rw [← hu]; unfold IntKind.wrap; simp [IntKind.bits, IntKind.signed]; omega
    go_enter Try.func25, Try.ntmps25
    go_wp2_with fail
    refine (of_any (-1) u _ (by omega) (by omega) (by omega) (by omega)).mono ?_
    rintro e w' ⟨rfl, hf⟩
    have hl : w.heap.size < w'.heap.size := by have := hf.size; simp at this; omega
    have hB : Bk w' w.heap.size 41 #[.int .u64 0, .int .u64 0, .int .u64 0, .int .u64 0, .int .u64 0, .int .u64 0, .int .u64 0, .int .u64 0, .int .u64 0] := Bk.fr (S := Nil) (by (repeat' (first | ((with_reducible refine new' ?_); simp; done) | with_reducible refine Bk.alloc ?_ _ | with_reducible refine Bk.far ?_ (by dsimp only; omega) _ | with_reducible refine Bk.drewN ?_ _ | with_reducible refine Bk.drew ?_))) hf (fun s => s)
    obtain ⟨k0, k1, k2, k3, k4, k5, k6, k7, k8, f0, f1, f2, f3, f4, f5, f6, f7, f8⟩ := c9 hB
    rw [show -1 * 18446744073709551616 + u = a by omega]
    unfold dcells
    go_wp2_with fail
    refine bodyPost_ret (v := .agg (dcells a)) ?_ rfl ⟨rfl, ?_⟩
    · unfold dcells
      simp [results, Try.results25, go_sem, k0, k1, k2, k3, k4, k5, k6, k7, k8]
    · have hh : Fr Nil w w' := Fr.trans (by (repeat' (with_reducible first | refine Fr.setCell ?_ (fun hlt => absurd hlt (by dsimp only; omega)) _ | refine Fr.alloc ?_ _ | refine Fr.drewN ?_ _ | refine Fr.drew ?_ | exact Fr.refl _ _))) hf
      (repeat' (with_reducible first | exact hh | refine Fr.setCell ?_ (fun hlt => absurd hlt (by dsimp only; omega)) _ | refine Fr.alloc ?_ _ | refine Fr.drewN ?_ _ | refine Fr.drew ?_))
  · go_enter Try.func25, Try.ntmps25
    go_wp2_with fail
    refine (of_any 0 a _ (by omega) (by omega) (by omega) (by omega)).mono ?_
    rintro e w' ⟨rfl, hf⟩
    have hl : w.heap.size < w'.heap.size := by have := hf.size; simp at this; omega
    have hB : Bk w' w.heap.size 41 #[.int .u64 0, .int .u64 0, .int .u64 0, .int .u64 0, .int .u64 0, .int .u64 0, .int .u64 0, .int .u64 0, .int .u64 0] := Bk.fr (S := Nil) (by (repeat' (first | ((with_reducible refine new' ?_); simp; done) | with_reducible refine Bk.alloc ?_ _ | with_reducible refine Bk.far ?_ (by dsimp only; omega) _ | with_reducible refine Bk.drewN ?_ _ | with_reducible refine Bk.drew ?_))) hf (fun s => s)
    obtain ⟨k0, k1, k2, k3, k4, k5, k6, k7, k8, f0, f1, f2, f3, f4, f5, f6, f7, f8⟩ := c9 hB
    rw [show 0 * 18446744073709551616 + a = a by omega]
    unfold dcells
    go_wp2_with fail
    refine bodyPost_ret (v := .agg (dcells a)) ?_ rfl ⟨rfl, ?_⟩
    · unfold dcells
      simp [results, Try.results25, go_sem, k0, k1, k2, k3, k4, k5, k6, k7, k8]
    · have hh : Fr Nil w w' := Fr.trans (by (repeat' (with_reducible first | refine Fr.setCell ?_ (fun hlt => absurd hlt (by dsimp only; omega)) _ | refine Fr.alloc ?_ _ | refine Fr.drewN ?_ _ | refine Fr.drew ?_ | exact Fr.refl _ _))) hf
      (repeat' (with_reducible first | exact hh | refine Fr.setCell ?_ (fun hlt => absurd hlt (by dsimp only; omega)) _ | refine Fr.alloc ?_ _ | refine Fr.drewN ?_ _ | refine Fr.drew ?_))
end Go.Proofs.Ytalbaopfdejooaa.WideC
