/- Chapter 2: the walk of the reference's Cmp. -/
import Derived.Test.YtalbaopfdejooaaWideE
namespace Go.Proofs.Ytalbaopfdejooaa.WideF
open Go.RowKit Base WideA WideB WideC WideD WideE
set_option linter.unusedVariables false
set_option linter.unusedSimpArgs false

def cmpI (m n : Int) : Int := if m < n then -1 else if n < m then 1 else 0

theorem same_step {m n : Int} {k : Nat} (h : m / pw (k + 1) = n / pw (k + 1)) (h1 : ¬ dg m k < dg n k) (h2 : ¬ dg n k < dg m k) : m / pw k = n / pw k := by
  rw [div_succ, div_succ] at h
  unfold dg at h1 h2
  omega

theorem lt_step {m n : Int} {k : Nat} (h : m / pw (k + 1) = n / pw (k + 1)) (h1 : dg m k < dg n k) : m < n := by
  rw [div_succ, div_succ] at h
  unfold dg at h1
  refine Int.lt_of_not_ge fun hle => ?_
  have := Int.ediv_le_ediv (pw_pos k) hle
  omega

theorem cmp_lt {m n : Int} (h : m < n) : cmpI m n = -1 := if_pos h
theorem cmp_gt {m n : Int} (h : n < m) : cmpI m n = 1 := by unfold cmpI; rw [if_neg (by omega), if_pos h]
theorem cmp_eq {m n : Int} (h : m / pw 0 = n / pw 0) : cmpI m n = 0 := by
  simp [pw] at h
  unfold cmpI
  rw [if_neg (by omega), if_neg (by omega)]

set_option maxHeartbeats 4000000 in
/-- of equal sign -/
theorem cmp_same (m n s : Int) (w : World) (hs : s = 0 ∨ s = 65535) (hm : dg m 8 = s) (hn : dg n 8 = s) (E0 : m / pw 8 = n / pw 8) :
    Calls Try.prog 21 #[.agg (dcells m), .agg (dcells n)] w fun e w' => e = .returned (.int .i64 (cmpI m n)) ∧ Fr Nil w w' := by
  have E8 := Lib.hid E0
  clear E0
  unfold dcells
  rw [hm, hn]
  clear hm hn
  go_enter Try.func21, Try.ntmps21
  go_wp2_with fail
  go_quiet (fail)
  go_wp2_with fail
  refine wp_loop_rounds 9 ?_
  by_cases t7 : dg m 7 < dg n 7
  · rw [rounds_succ]
    go_wp2_with fail
    go_quiet (fail)
    go_wp2_with fail
    rw [cmp_lt (lt_step E8.out t7)]
    refine bodyPost_ret (v := .int .i64 (-1)) (by simp [results, Try.results21, go_sem]) rfl ⟨rfl, by (repeat' (with_reducible first | refine Fr.setCell ?_ (fun hlt => absurd hlt (by dsimp only; omega)) _ | refine Fr.alloc ?_ _ | refine Fr.drewN ?_ _ | refine Fr.drew ?_ | exact Fr.refl _ _))⟩
  by_cases u7 : dg n 7 < dg m 7
  · rw [rounds_succ]
    go_wp2_with fail
    go_quiet (fail)
    go_wp2_with fail
    go_quiet (fail)
    go_wp2_with fail
    rw [cmp_gt (lt_step E8.out.symm u7)]
    refine bodyPost_ret (v := .int .i64 1) (by simp [results, Try.results21, go_sem]) rfl ⟨rfl, by (repeat' (with_reducible first | refine Fr.setCell ?_ (fun hlt => absurd hlt (by dsimp only; omega)) _ | refine Fr.alloc ?_ _ | refine Fr.drewN ?_ _ | refine Fr.drew ?_ | exact Fr.refl _ _))⟩
  have E7 := Lib.hid (same_step E8.out t7 u7)
  rw [rounds_succ]
  go_wp2_with fail
  go_quiet (fail)
  go_wp2_with fail
  go_quiet (fail)
  go_wp2_with fail
  clear t7 u7
  by_cases t6 : dg m 6 < dg n 6
  · rw [rounds_succ]
    go_wp2_with fail
    go_quiet (fail)
    go_wp2_with fail
    rw [cmp_lt (lt_step E7.out t6)]
    refine bodyPost_ret (v := .int .i64 (-1)) (by simp [results, Try.results21, go_sem]) rfl ⟨rfl, by (repeat' (with_reducible first | refine Fr.setCell ?_ (fun hlt => absurd hlt (by dsimp only; omega)) _ | refine Fr.alloc ?_ _ | refine Fr.drewN ?_ _ | refine Fr.drew ?_ | exact Fr.refl _ _))⟩
  by_cases u6 : dg n 6 < dg m 6
  · rw [rounds_succ]
    go_wp2_with fail
    go_quiet (fail)
    go_wp2_with fail
    go_quiet (fail)
    go_wp2_with fail
    rw [cmp_gt (lt_step E7.out.symm u6)]
    refine bodyPost_ret (v := .int .i64 1) (by simp [results, Try.results21, go_sem]) rfl ⟨rfl, by (repeat' (with_reducible first | refine Fr.setCell ?_ (fun hlt => absurd hlt (by dsimp only; omega)) _ | refine Fr.alloc ?_ _ | refine Fr.drewN ?_ _ | refine Fr.drew ?_ | exact Fr.refl _ _))⟩
  have E6 := Lib.hid (same_step E7.out t6 u6)
  rw [rounds_succ]
  go_wp2_with fail
  go_quiet (fail)
  go_wp2_with fail
  go_quiet (fail)
  go_wp2_with fail
  clear t6 u6
  by_cases t5 : dg m 5 < dg n 5
  · rw [rounds_succ]
    go_wp2_with fail
    go_quiet (fail)
    go_wp2_with fail
    rw [cmp_lt (lt_step E6.out t5)]
    refine bodyPost_ret (v := .int .i64 (-1)) (by simp [results, Try.results21, go_sem]) rfl ⟨rfl, by (repeat' (with_reducible first | refine Fr.setCell ?_ (fun hlt => absurd hlt (by dsimp only; omega)) _ | refine Fr.alloc ?_ _ | refine Fr.drewN ?_ _ | refine Fr.drew ?_ | exact Fr.refl _ _))⟩
  by_cases u5 : dg n 5 < dg m 5
  · rw [rounds_succ]
    go_wp2_with fail
    go_quiet (fail)
    go_wp2_with fail
    go_quiet (fail)
    go_wp2_with fail
    rw [cmp_gt (lt_step E6.out.symm u5)]
    refine bodyPost_ret (v := .int .i64 1) (by simp [results, Try.results21, go_sem]) rfl ⟨rfl, by (repeat' (with_reducible first | refine Fr.setCell ?_ (fun hlt => absurd hlt (by dsimp only; omega)) _ | refine Fr.alloc ?_ _ | refine Fr.drewN ?_ _ | refine Fr.drew ?_ | exact Fr.refl _ _))⟩
  have E5 := Lib.hid (same_step E6.out t5 u5)
  rw [rounds_succ]
  go_wp2_with fail
  go_quiet (fail)
  go_wp2_with fail
  go_quiet (fail)
  go_wp2_with fail
  clear t5 u5
  by_cases t4 : dg m 4 < dg n 4
  · rw [rounds_succ]
    go_wp2_with fail
    go_quiet (fail)
    go_wp2_with fail
    rw [cmp_lt (lt_step E5.out t4)]
    refine bodyPost_ret (v := .int .i64 (-1)) (by simp [results, Try.results21, go_sem]) rfl ⟨rfl, by (repeat' (with_reducible first | refine Fr.setCell ?_ (fun hlt => absurd hlt (by dsimp only; omega)) _ | refine Fr.alloc ?_ _ | refine Fr.drewN ?_ _ | refine Fr.drew ?_ | exact Fr.refl _ _))⟩
  by_cases u4 : dg n 4 < dg m 4
  · rw [rounds_succ]
    go_wp2_with fail
    go_quiet (fail)
    go_wp2_with fail
    go_quiet (fail)
    go_wp2_with fail
    rw [cmp_gt (lt_step E5.out.symm u4)]
    refine bodyPost_ret (v := .int .i64 1) (by simp [results, Try.results21, go_sem]) rfl ⟨rfl, by (repeat' (with_reducible first | refine Fr.setCell ?_ (fun hlt => absurd hlt (by dsimp only; omega)) _ | refine Fr.alloc ?_ _ | refine Fr.drewN ?_ _ | refine Fr.drew ?_ | exact Fr.refl _ _))⟩
  have E4 := Lib.hid (same_step E5.out t4 u4)
  rw [rounds_succ]
  go_wp2_with fail
  go_quiet (fail)
  go_wp2_with fail
  go_quiet (fail)
  go_wp2_with fail
  clear t4 u4
  by_cases t3 : dg m 3 < dg n 3
  · rw [rounds_succ]
    go_wp2_with fail
    go_quiet (fail)
    go_wp2_with fail
    rw [cmp_lt (lt_step E4.out t3)]
    refine bodyPost_ret (v := .int .i64 (-1)) (by simp [results, Try.results21, go_sem]) rfl ⟨rfl, by (repeat' (with_reducible first | refine Fr.setCell ?_ (fun hlt => absurd hlt (by dsimp only; omega)) _ | refine Fr.alloc ?_ _ | refine Fr.drewN ?_ _ | refine Fr.drew ?_ | exact Fr.refl _ _))⟩
  by_cases u3 : dg n 3 < dg m 3
  · rw [rounds_succ]
    go_wp2_with fail
    go_quiet (fail)
    go_wp2_with fail
    go_quiet (fail)
    go_wp2_with fail
    rw [cmp_gt (lt_step E4.out.symm u3)]
    refine bodyPost_ret (v := .int .i64 1) (by simp [results, Try.results21, go_sem]) rfl ⟨rfl, by (repeat' (with_reducible first | refine Fr.setCell ?_ (fun hlt => absurd hlt (by dsimp only; omega)) _ | refine Fr.alloc ?_ _ | refine Fr.drewN ?_ _ | refine Fr.drew ?_ | exact Fr.refl _ _))⟩
  have E3 := Lib.hid (same_step E4.out t3 u3)
  rw [rounds_succ]
  go_wp2_with fail
  go_quiet (fail)
  go_wp2_with fail
  go_quiet (fail)
  go_wp2_with fail
  clear t3 u3
  by_cases t2 : dg m 2 < dg n 2
  · rw [rounds_succ]
    go_wp2_with fail
    go_quiet (fail)
    go_wp2_with fail
    rw [cmp_lt (lt_step E3.out t2)]
    refine bodyPost_ret (v := .int .i64 (-1)) (by simp [results, Try.results21, go_sem]) rfl ⟨rfl, by (repeat' (with_reducible first | refine Fr.setCell ?_ (fun hlt => absurd hlt (by dsimp only; omega)) _ | refine Fr.alloc ?_ _ | refine Fr.drewN ?_ _ | refine Fr.drew ?_ | exact Fr.refl _ _))⟩
  by_cases u2 : dg n 2 < dg m 2
  · rw [rounds_succ]
    go_wp2_with fail
    go_quiet (fail)
    go_wp2_with fail
    go_quiet (fail)
    go_wp2_with fail
    rw [cmp_gt (lt_step E3.out.symm u2)]
    refine bodyPost_ret (v := .int .i64 1) (by simp [results, Try.results21, go_sem]) rfl ⟨rfl, by (repeat' (with_reducible first | refine Fr.setCell ?_ (fun hlt => absurd hlt (by dsimp only; omega)) _ | refine Fr.alloc ?_ _ | refine Fr.drewN ?_ _ | refine Fr.drew ?_ | exact Fr.refl _ _))⟩
  have E2 := Lib.hid (same_step E3.out t2 u2)
  rw [rounds_succ]
  go_wp2_with fail
  go_quiet (fail)
  go_wp2_with fail
  go_quiet (fail)
  go_wp2_with fail
  clear t2 u2
  by_cases t1 : dg m 1 < dg n 1
  · rw [rounds_succ]
    go_wp2_with fail
    go_quiet (fail)
    go_wp2_with fail
    rw [cmp_lt (lt_step E2.out t1)]
    refine bodyPost_ret (v := .int .i64 (-1)) (by simp [results, Try.results21, go_sem]) rfl ⟨rfl, by (repeat' (with_reducible first | refine Fr.setCell ?_ (fun hlt => absurd hlt (by dsimp only; omega)) _ | refine Fr.alloc ?_ _ | refine Fr.drewN ?_ _ | refine Fr.drew ?_ | exact Fr.refl _ _))⟩
  by_cases u1 : dg n 1 < dg m 1
  · rw [rounds_succ]
    go_wp2_with fail
    go_quiet (fail)
    go_wp2_with fail
    go_quiet (fail)
    go_wp2_with fail
    rw [cmp_gt (lt_step E2.out.symm u1)]
    refine bodyPost_ret (v := .int .i64 1) (by simp [results, Try.results21, go_sem]) rfl ⟨rfl, by (repeat' (with_reducible first | refine Fr.setCell ?_ (fun hlt => absurd hlt (by dsimp only; omega)) _ | refine Fr.alloc ?_ _ | refine Fr.drewN ?_ _ | refine Fr.drew ?_ | exact Fr.refl _ _))⟩
  have E1 := Lib.hid (same_step E2.out t1 u1)
  rw [rounds_succ]
  go_wp2_with fail
  go_quiet (fail)
  go_wp2_with fail
  go_quiet (fail)
  go_wp2_with fail
  clear t1 u1
  by_cases t0 : dg m 0 < dg n 0
  · rw [rounds_succ]
    go_wp2_with fail
    go_quiet (fail)
    go_wp2_with fail
    rw [cmp_lt (lt_step E1.out t0)]
    refine bodyPost_ret (v := .int .i64 (-1)) (by simp [results, Try.results21, go_sem]) rfl ⟨rfl, by (repeat' (with_reducible first | refine Fr.setCell ?_ (fun hlt => absurd hlt (by dsimp only; omega)) _ | refine Fr.alloc ?_ _ | refine Fr.drewN ?_ _ | refine Fr.drew ?_ | exact Fr.refl _ _))⟩
  by_cases u0 : dg n 0 < dg m 0
  · rw [rounds_succ]
    go_wp2_with fail
    go_quiet (fail)
    go_wp2_with fail
    go_quiet (fail)
    go_wp2_with fail
    rw [cmp_gt (lt_step E1.out.symm u0)]
    refine bodyPost_ret (v := .int .i64 1) (by simp [results, Try.results21, go_sem]) rfl ⟨rfl, by (repeat' (with_reducible first | refine Fr.setCell ?_ (fun hlt => absurd hlt (by dsimp only; omega)) _ | refine Fr.alloc ?_ _ | refine Fr.drewN ?_ _ | refine Fr.drew ?_ | exact Fr.refl _ _))⟩
  have E0 := Lib.hid (same_step E1.out t0 u0)
  rw [rounds_succ]
  go_wp2_with fail
  go_quiet (fail)
  go_wp2_with fail
  go_quiet (fail)
  go_wp2_with fail
  clear t0 u0
  rw [rounds_succ]
  go_wp2_with fail
  rw [cmp_eq E0.out]
  refine bodyPost_ret (v := .int .i64 0) (by simp [results, Try.results21, go_sem]) rfl ⟨rfl, by (repeat' (with_reducible first | refine Fr.setCell ?_ (fun hlt => absurd hlt (by dsimp only; omega)) _ | refine Fr.alloc ?_ _ | refine Fr.drewN ?_ _ | refine Fr.drew ?_ | exact Fr.refl _ _))⟩

theorem cmp_any (m n : Int) (w : World) (m0 : -340282366920938463463374607431768211456 ≤ m) (m1 : m < 340282366920938463463374607431768211456) (n0 : -340282366920938463463374607431768211456 ≤ n) (n1 : n < 340282366920938463463374607431768211456) :
    Calls Try.prog 21 #[.agg (dcells m), .agg (dcells n)] w fun e w' => e = .returned (.int .i64 (cmpI m n)) ∧ Fr Nil w w' := by
  have hm := dg8 m (by rw [pw8]; omega) (by rw [pw8]; omega)
  have hn := dg8 n (by rw [pw8]; omega) (by rw [pw8]; omega)
  have dm := div_eight m (by rw [pw8]; omega) (by rw [pw8]; omega)
  have dn := div_eight n (by rw [pw8]; omega) (by rw [pw8]; omega)
  by_cases am : m < 0
  · rw [if_pos am] at hm dm
    by_cases an : n < 0
    · rw [if_pos an] at hn dn
      exact cmp_same m n 65535 w (Or.inr rfl) hm hn (by rw [dm, dn])
    · rw [if_neg an] at hn dn
      rw [cmp_lt (by omega)]
      unfold dcells
      rw [hm, hn]
      clear hm hn dm dn
      go_enter Try.func21, Try.ntmps21
      go_wp2_with fail
      go_quiet (fail)
      go_wp2_with fail
      refine bodyPost_ret (v := .int .i64 (-1)) (by simp [results, Try.results21, go_sem]) rfl ⟨rfl, by (repeat' (with_reducible first | refine Fr.setCell ?_ (fun hlt => absurd hlt (by dsimp only; omega)) _ | refine Fr.alloc ?_ _ | refine Fr.drewN ?_ _ | refine Fr.drew ?_ | exact Fr.refl _ _))⟩
  · rw [if_neg am] at hm dm
    by_cases an : n < 0
    · rw [if_pos an] at hn dn
      rw [cmp_gt (by omega)]
      unfold dcells
      rw [hm, hn]
      clear hm hn dm dn
      go_enter Try.func21, Try.ntmps21
      go_wp2_with fail
      go_quiet (fail)
      go_wp2_with fail
      refine bodyPost_ret (v := .int .i64 1) (by simp [results, Try.results21, go_sem]) rfl ⟨rfl, by (repeat' (with_reducible first | refine Fr.setCell ?_ (fun hlt => absurd hlt (by dsimp only; omega)) _ | refine Fr.alloc ?_ _ | refine Fr.drewN ?_ _ | refine Fr.drew ?_ | exact Fr.refl _ _))⟩
    · rw [if_neg an] at hn dn
      exact cmp_same m n 0 w (Or.inl rfl) hm hn (by rw [dm, dn])
end Go.Proofs.Ytalbaopfdejooaa.WideF
