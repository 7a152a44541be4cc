/- Chapter 3: the walks of the laws KernTurns, KernBetween. -/
import Derived.Test.YtpngeaklfjofiaaKernG
namespace Go.Proofs.Ytpngeaklfjofiaa.KernF
open Go.RowKit Base WideA WideB WideE WideF KernA KernB KernC KernD KernE KernG Quiet
set_option linter.unusedVariables false
set_option linter.unusedSimpArgs false

set_option maxHeartbeats 8000000 in
theorem turns_any (ai ax ay bi bx bv ci cx cy : Int) (w : World) : Calls Try.prog 3 #[.agg #[.int .i64 ai, .int .i64 ax, .int .i64 ay], .agg #[.int .i64 bi, .int .i64 bx, .int .i64 bv], .agg #[.int .i64 ci, .int .i64 cx, .int .i64 cy]] w fun e w' => e = .returned (.bool true) ∧ Fr Nil w w' := by
  have hz := tz_bd ax ay bx bv cx cy
  have kT : ∀ W, Calls Try.prog 7 #[.agg #[.int .i64 ai, .int .i64 ax, .int .i64 ay], .agg #[.int .i64 bi, .int .i64 bx, .int .i64 bv], .agg #[.int .i64 ci, .int .i64 cx, .int .i64 cy]] W fun e w' => e = .returned (.int .i64 (tz ax ay bx bv cx cy)) ∧ Fr Nil W w' := fun W => Turn_any ai ax ay bi bx bv ci cx cy W
  have kR : ∀ W, Calls Try.prog 8 #[.agg #[.int .i64 ai, .int .i64 ax, .int .i64 ay], .agg #[.int .i64 bi, .int .i64 bx, .int .i64 bv], .agg #[.int .i64 ci, .int .i64 cx, .int .i64 cy]] W fun e w' => e = .returned (.int .i64 (tz ax ay bx bv cx cy)) ∧ Fr Nil W w' := fun W => rturn_any ai ax ay bi bx bv ci cx cy W
  have kX : ∀ W, Calls Try.prog 7 #[.agg #[.int .i64 bi, .int .i64 bx, .int .i64 bv], .agg #[.int .i64 ci, .int .i64 cx, .int .i64 cy], .agg #[.int .i64 ai, .int .i64 ax, .int .i64 ay]] W fun e w' => e = .returned (.int .i64 (tz ax ay bx bv cx cy)) ∧ Fr Nil W w' := fun W => by
    have h := Turn_any bi bx bv ci cx cy ai ax ay W
    rw [tz_rot ax ay bx bv cx cy] at h
    exact h
  have kY : ∀ W, Calls Try.prog 7 #[.agg #[.int .i64 ai, .int .i64 ax, .int .i64 ay], .agg #[.int .i64 ci, .int .i64 cx, .int .i64 cy], .agg #[.int .i64 bi, .int .i64 bx, .int .i64 bv]] W fun e w' => e = .returned (.int .i64 (-tz ax ay bx bv cx cy)) ∧ Fr Nil W w' := fun W => by
    have h := Turn_any ai ax ay ci cx cy bi bx bv W
    rw [tz_neg ax ay bx bv cx cy] at h
    exact h
  have kB : ∀ W, Calls Try.prog 9 #[.agg #[.int .i64 ai, .int .i64 ax, .int .i64 ay], .agg #[.int .i64 bi, .int .i64 bx, .int .i64 bv], .agg #[.int .i64 ci, .int .i64 cx, .int .i64 cy]] W fun e w' => e = .returned (.bool (bz ax ay bx bv cx cy)) ∧ Fr Nil W w' := fun W => Between_any ai ax ay bi bx bv ci cx cy W
  have kS : ∀ W, Calls Try.prog 10 #[.agg #[.int .i64 ai, .int .i64 ax, .int .i64 ay], .agg #[.int .i64 bi, .int .i64 bx, .int .i64 bv], .agg #[.int .i64 ci, .int .i64 cx, .int .i64 cy]] W fun e w' => e = .returned (.bool (bz ax ay bx bv cx cy)) ∧ Fr Nil W w' := fun W => rBetween_any ai ax ay bi bx bv ci cx cy W
  have kC : ∀ W, Calls Try.prog 9 #[.agg #[.int .i64 bi, .int .i64 bx, .int .i64 bv], .agg #[.int .i64 ai, .int .i64 ax, .int .i64 ay], .agg #[.int .i64 ci, .int .i64 cx, .int .i64 cy]] W fun e w' => e = .returned (.bool (bz ax ay bx bv cx cy)) ∧ Fr Nil W w' := fun W => by
    have h := Between_any bi bx bv ai ax ay ci cx cy W
    rw [bz_swap ax ay bx bv cx cy] at h
    exact h
  generalize bz ax ay bx bv cx cy = bb at *
  generalize tz ax ay bx bv cx cy = z at *
  have T := Lib.hid kT
  have R := Lib.hid kR
  have X := Lib.hid kX
  have Y := Lib.hid kY
  have B := Lib.hid kB
  have S := Lib.hid kS
  have C := Lib.hid kC
  clear kT kR kX kY kB kS kC
  go_enter Try.func3, Try.ntmps3
  go_wp2_with fail
  refine (T.out _).mono ?_
  rintro e w1 ⟨rfl, hf1⟩
  have hA : Bk w1 w.heap.size 23 #[.int .i64 ai, .int .i64 ax, .int .i64 ay] := c3' (by (repeat' (first | ((with_reducible refine new' ?_); simp; done) | with_reducible refine Bk.alloc ?_ _ | with_reducible refine Bk.far ?_ (by dsimp only; omega) _ | with_reducible refine Bk.drewN ?_ _ | with_reducible refine Bk.drew ?_))) hf1
  have hB : Bk w1 (w.heap.size + 1) 23 #[.int .i64 bi, .int .i64 bx, .int .i64 bv] := c3' (by (repeat' (first | ((with_reducible refine new' ?_); simp; done) | with_reducible refine Bk.alloc ?_ _ | with_reducible refine Bk.far ?_ (by dsimp only; omega) _ | with_reducible refine Bk.drewN ?_ _ | with_reducible refine Bk.drew ?_))) hf1
  have hC : Bk w1 (w.heap.size + 1 + 1) 23 #[.int .i64 ci, .int .i64 cx, .int .i64 cy] := c3' (by (repeat' (first | ((with_reducible refine new' ?_); simp; done) | with_reducible refine Bk.alloc ?_ _ | with_reducible refine Bk.far ?_ (by dsimp only; omega) _ | with_reducible refine Bk.drewN ?_ _ | with_reducible refine Bk.drew ?_))) hf1
  have g1 : Fr Nil w w1 := Fr.trans (by (repeat' (with_reducible first | refine Fr.setCell ?_ (fun hlt => absurd hlt (by dsimp only; omega)) _ | refine Fr.alloc ?_ _ | refine Fr.drewN ?_ _ | refine Fr.drew ?_ | exact Fr.refl _ _))) hf1
  clear hf1
  go_wp2_with fail
  obtain ⟨p1, p2, p3⟩ := quiet_c3 (S := Nil) hA id
  obtain ⟨q1, q2, q3⟩ := quiet_c3 (S := Nil) hB id
  obtain ⟨r1, r2, r3⟩ := quiet_c3 (S := Nil) hC id
  refine wp_region_quiet_fr Nil (by kernel_rfl) (by kernel_rfl) ?_
  repeat (go_big_quiet_step (first
    | (go_at_call 7; first | with_reducible exact quiet_call (T.out _) | with_reducible exact quiet_call (X.out _) | with_reducible exact quiet_call (Y.out _))
    | (go_at_call 8; with_reducible exact quiet_call (R.out _))
    | (go_at_call 9; first | with_reducible exact quiet_call (B.out _) | with_reducible exact quiet_call (C.out _))
    | (go_at_call 10; with_reducible exact quiet_call (S.out _))
    | (go_at_call 11; with_reducible exact quiet_call (lives_any _))))
  refine wpQuiet_nil ?_
  intro _ hw'
  obtain ⟨⟨wq, hfq⟩, hw''⟩ := hw'
  subst hw''
  go_wp2_with fail
  exact bodyPost_ret (v := .bool true) (by simp [results, Try.results3, go_sem]) rfl ⟨rfl, g1.trans hfq⟩

set_option maxHeartbeats 16000000 in
theorem betweens_any (ai ax ay bi bx bv ci cx cy : Int) (w : World) : Calls Try.prog 4 #[.agg #[.int .i64 ai, .int .i64 ax, .int .i64 ay], .agg #[.int .i64 bi, .int .i64 bx, .int .i64 bv], .agg #[.int .i64 ci, .int .i64 cx, .int .i64 cy]] w fun e w' => e = .returned (.bool true) ∧ Fr Nil w w' := by
  have kA : ∀ W, Calls Try.prog 12 #[.agg #[.int .i64 ai, .int .i64 ax, .int .i64 ay]] W fun e w' => e = .returned (.bool (lieB ax ay)) ∧ Fr Nil W w' := fun W => rlies_any ai ax ay W
  have kB : ∀ W, Calls Try.prog 12 #[.agg #[.int .i64 bi, .int .i64 bx, .int .i64 bv]] W fun e w' => e = .returned (.bool (lieB bx bv)) ∧ Fr Nil W w' := fun W => rlies_any bi bx bv W
  have kC : ∀ W, Calls Try.prog 12 #[.agg #[.int .i64 ci, .int .i64 cx, .int .i64 cy]] W fun e w' => e = .returned (.bool (lieB cx cy)) ∧ Fr Nil W w' := fun W => rlies_any ci cx cy W
  have kL : ∀ W, Calls Try.prog 11 #[] W fun e w' => e = .returned (.bool true) ∧ Fr Nil W w' := fun W => lives_any W
  have kU : ∀ W, Calls Try.prog 9 #[.agg #[.int .i64 ai, .int .i64 ax, .int .i64 ay], .agg #[.int .i64 bi, .int .i64 bx, .int .i64 bv], .agg #[.int .i64 ci, .int .i64 cx, .int .i64 cy]] W fun e w' => e = .returned (.bool (bz ax ay bx bv cx cy)) ∧ Fr Nil W w' := fun W => Between_any ai ax ay bi bx bv ci cx cy W
  by_cases hl : (lieB ax ay && lieB bx bv && lieB cx cy) = true
  · simp only [Bool.and_eq_true] at hl
    obtain ⟨⟨h1, h2⟩, h3⟩ := hl
    simp only [h1, h2, h3] at kA kB kC
    have kP : ∀ W, Calls Try.prog 9 #[.agg #[.int .i64 ai, .int .i64 ax, .int .i64 ay], .agg #[.int .i64 bi, .int .i64 bx, .int .i64 bv], .agg #[.int .i64 ai, .int .i64 ax, .int .i64 ay]] W fun e w' => e = .returned (.bool true) ∧ Fr Nil W w' := fun W => by
      have h := Between_any ai ax ay bi bx bv ai ax ay W
      rw [bz_a h1 h2] at h
      exact h
    have kQ : ∀ W, Calls Try.prog 9 #[.agg #[.int .i64 ai, .int .i64 ax, .int .i64 ay], .agg #[.int .i64 bi, .int .i64 bx, .int .i64 bv], .agg #[.int .i64 bi, .int .i64 bx, .int .i64 bv]] W fun e w' => e = .returned (.bool true) ∧ Fr Nil W w' := fun W => by
      have h := Between_any ai ax ay bi bx bv bi bx bv W
      rw [bz_b h1 h2] at h
      exact h
    have kV : ∀ W, Calls Try.prog 9 #[.agg #[.int .i64 ai, .int .i64 ax, .int .i64 ay], .agg #[.int .i64 ai, .int .i64 ax, .int .i64 ay], .agg #[.int .i64 ci, .int .i64 cx, .int .i64 cy]] W fun e w' => e = .returned (.bool (bz ax ay ax ay cx cy)) ∧ Fr Nil W w' := fun W => Between_any ai ax ay ai ax ay ci cx cy W
    have kT : ∀ W, Calls Try.prog 7 #[.agg #[.int .i64 ai, .int .i64 ax, .int .i64 ay], .agg #[.int .i64 bi, .int .i64 bx, .int .i64 bv], .agg #[.int .i64 ci, .int .i64 cx, .int .i64 cy]] W fun e w' => e = .returned (.int .i64 (tz ax ay bx bv cx cy)) ∧ Fr Nil W w' := fun W => Turn_any ai ax ay bi bx bv ci cx cy W
    clear h1 h2 h3
    by_cases hu : bz ax ay bx bv cx cy = true
    · have hz := bz_tz hu
      rw [hz] at kT
      simp only [hu] at kU
      clear hu hz
      by_cases hv : bz ax ay ax ay cx cy = true
      · obtain ⟨rfl, rfl⟩ := bz_at hv
        simp only [hv] at kV
        clear hv
        have A := Lib.hid kA
        have B := Lib.hid kB
        have C := Lib.hid kC
        have L := Lib.hid kL
        have U := Lib.hid kU
        have P := Lib.hid kP
        have Q := Lib.hid kQ
        have V := Lib.hid kV
        have T := Lib.hid kT
        clear kA kB kC kL kU kP kQ kV kT
        go_enter Try.func4, Try.ntmps4
        go_wp2_with fail
        refine (A.out _).mono ?_
        rintro e w1 ⟨rfl, hf1⟩
        have hA : Bk w1 w.heap.size 23 #[.int .i64 ai, .int .i64 cx, .int .i64 cy] := c3' (by (repeat' (first | ((with_reducible refine new' ?_); simp; done) | with_reducible refine Bk.alloc ?_ _ | with_reducible refine Bk.far ?_ (by dsimp only; omega) _ | with_reducible refine Bk.drewN ?_ _ | with_reducible refine Bk.drew ?_))) hf1
        have hB : Bk w1 (w.heap.size + 1) 23 #[.int .i64 bi, .int .i64 bx, .int .i64 bv] := c3' (by (repeat' (first | ((with_reducible refine new' ?_); simp; done) | with_reducible refine Bk.alloc ?_ _ | with_reducible refine Bk.far ?_ (by dsimp only; omega) _ | with_reducible refine Bk.drewN ?_ _ | with_reducible refine Bk.drew ?_))) hf1
        have hC : Bk w1 (w.heap.size + 1 + 1) 23 #[.int .i64 ci, .int .i64 cx, .int .i64 cy] := c3' (by (repeat' (first | ((with_reducible refine new' ?_); simp; done) | with_reducible refine Bk.alloc ?_ _ | with_reducible refine Bk.far ?_ (by dsimp only; omega) _ | with_reducible refine Bk.drewN ?_ _ | with_reducible refine Bk.drew ?_))) hf1
        have g1 : Fr Nil w w1 := Fr.trans (by (repeat' (with_reducible first | refine Fr.setCell ?_ (fun hlt => absurd hlt (by dsimp only; omega)) _ | refine Fr.alloc ?_ _ | refine Fr.drewN ?_ _ | refine Fr.drew ?_ | exact Fr.refl _ _))) hf1
        clear hf1
        obtain ⟨p0, p1, p2, _, _, _⟩ := hA.c3
        obtain ⟨q0, q1, q2, _, _, _⟩ := hB.c3
        obtain ⟨r0, r1, r2, _, _, _⟩ := hC.c3
        go_wp2_with fail
        refine (B.out _).mono ?_
        rintro e w2 ⟨rfl, hf2⟩
        have hA := c3' hA hf2
        have hB := c3' hB hf2
        have hC := c3' hC hf2
        have g2 := g1.trans hf2
        clear hf2 g1 p0 p1 p2 q0 q1 q2 r0 r1 r2
        obtain ⟨p0, p1, p2, _, _, _⟩ := hA.c3
        obtain ⟨q0, q1, q2, _, _, _⟩ := hB.c3
        obtain ⟨r0, r1, r2, _, _, _⟩ := hC.c3
        go_wp2_with fail
        refine (C.out _).mono ?_
        rintro e w3 ⟨rfl, hf3⟩
        have hA := c3' hA hf3
        have hB := c3' hB hf3
        have hC := c3' hC hf3
        have g3 := g2.trans hf3
        clear hf3 g2 p0 p1 p2 q0 q1 q2 r0 r1 r2
        obtain ⟨p0, p1, p2, _, _, _⟩ := hA.c3
        obtain ⟨q0, q1, q2, _, _, _⟩ := hB.c3
        obtain ⟨r0, r1, r2, _, _, _⟩ := hC.c3
        go_wp2_with fail
        refine (P.out _).mono ?_
        rintro e w4 ⟨rfl, hf4⟩
        have hA := c3' hA hf4
        have hB := c3' hB hf4
        have hC := c3' hC hf4
        have g4 := g3.trans hf4
        clear hf4 g3 p0 p1 p2 q0 q1 q2 r0 r1 r2
        obtain ⟨p0, p1, p2, _, _, _⟩ := hA.c3
        obtain ⟨q0, q1, q2, _, _, _⟩ := hB.c3
        obtain ⟨r0, r1, r2, _, _, _⟩ := hC.c3
        go_wp2_with fail
        refine (Q.out _).mono ?_
        rintro e w5 ⟨rfl, hf5⟩
        have hA := c3' hA hf5
        have hB := c3' hB hf5
        have hC := c3' hC hf5
        have g5 := g4.trans hf5
        clear hf5 g4 p0 p1 p2 q0 q1 q2 r0 r1 r2
        obtain ⟨p0, p1, p2, _, _, _⟩ := hA.c3
        obtain ⟨q0, q1, q2, _, _, _⟩ := hB.c3
        obtain ⟨r0, r1, r2, _, _, _⟩ := hC.c3
        go_wp2_with fail
        refine (U.out _).mono ?_
        rintro e w6 ⟨rfl, hf6⟩
        have hA := c3' hA hf6
        have hB := c3' hB hf6
        have hC := c3' hC hf6
        have g6 := g5.trans hf6
        clear hf6 g5 p0 p1 p2 q0 q1 q2 r0 r1 r2
        obtain ⟨p0, p1, p2, _, _, _⟩ := hA.c3
        obtain ⟨q0, q1, q2, _, _, _⟩ := hB.c3
        obtain ⟨r0, r1, r2, _, _, _⟩ := hC.c3
        go_wp2_with fail
        refine (T.out _).mono ?_
        rintro e w7 ⟨rfl, hf7⟩
        have hA := c3' hA hf7
        have hB := c3' hB hf7
        have hC := c3' hC hf7
        have g7 := g6.trans hf7
        clear hf7 g6 p0 p1 p2 q0 q1 q2 r0 r1 r2
        obtain ⟨p0, p1, p2, _, _, _⟩ := hA.c3
        obtain ⟨q0, q1, q2, _, _, _⟩ := hB.c3
        obtain ⟨r0, r1, r2, _, _, _⟩ := hC.c3
        go_wp2_with fail
        refine (V.out _).mono ?_
        rintro e w8 ⟨rfl, hf8⟩
        have hA := c3' hA hf8
        have hB := c3' hB hf8
        have hC := c3' hC hf8
        have g8 := g7.trans hf8
        clear hf8 g7 p0 p1 p2 q0 q1 q2 r0 r1 r2
        obtain ⟨p0, p1, p2, _, _, _⟩ := hA.c3
        obtain ⟨q0, q1, q2, _, _, _⟩ := hB.c3
        obtain ⟨r0, r1, r2, _, _, _⟩ := hC.c3
        go_wp2_with fail
        refine (L.out _).mono ?_
        rintro e w9 ⟨rfl, hf9⟩
        have hA := c3' hA hf9
        have hB := c3' hB hf9
        have hC := c3' hC hf9
        have g9 := g8.trans hf9
        clear hf9 g8 p0 p1 p2 q0 q1 q2 r0 r1 r2
        obtain ⟨p0, p1, p2, _, _, _⟩ := hA.c3
        obtain ⟨q0, q1, q2, _, _, _⟩ := hB.c3
        obtain ⟨r0, r1, r2, _, _, _⟩ := hC.c3
        go_wp2_with fail
        exact bodyPost_ret (v := .bool true) (by simp [results, Try.results4, go_sem] <;> omega) rfl ⟨rfl, by (repeat' (with_reducible first | exact g9 | refine Fr.setCell ?_ (fun hlt => absurd hlt (by dsimp only; omega)) _ | refine Fr.alloc ?_ _ | refine Fr.drewN ?_ _ | refine Fr.drew ?_))⟩
      · have hv := Bool.eq_false_iff.2 hv
        simp only [hv] at kV
        clear hv
        have A := Lib.hid kA
        have B := Lib.hid kB
        have C := Lib.hid kC
        have L := Lib.hid kL
        have U := Lib.hid kU
        have P := Lib.hid kP
        have Q := Lib.hid kQ
        have V := Lib.hid kV
        have T := Lib.hid kT
        clear kA kB kC kL kU kP kQ kV kT
        go_enter Try.func4, Try.ntmps4
        go_wp2_with fail
        refine (A.out _).mono ?_
        rintro e w1 ⟨rfl, hf1⟩
        have hA : Bk w1 w.heap.size 23 #[.int .i64 ai, .int .i64 ax, .int .i64 ay] := c3' (by (repeat' (first | ((with_reducible refine new' ?_); simp; done) | with_reducible refine Bk.alloc ?_ _ | with_reducible refine Bk.far ?_ (by dsimp only; omega) _ | with_reducible refine Bk.drewN ?_ _ | with_reducible refine Bk.drew ?_))) hf1
        have hB : Bk w1 (w.heap.size + 1) 23 #[.int .i64 bi, .int .i64 bx, .int .i64 bv] := c3' (by (repeat' (first | ((with_reducible refine new' ?_); simp; done) | with_reducible refine Bk.alloc ?_ _ | with_reducible refine Bk.far ?_ (by dsimp only; omega) _ | with_reducible refine Bk.drewN ?_ _ | with_reducible refine Bk.drew ?_))) hf1
        have hC : Bk w1 (w.heap.size + 1 + 1) 23 #[.int .i64 ci, .int .i64 cx, .int .i64 cy] := c3' (by (repeat' (first | ((with_reducible refine new' ?_); simp; done) | with_reducible refine Bk.alloc ?_ _ | with_reducible refine Bk.far ?_ (by dsimp only; omega) _ | with_reducible refine Bk.drewN ?_ _ | with_reducible refine Bk.drew ?_))) hf1
        have g1 : Fr Nil w w1 := Fr.trans (by (repeat' (with_reducible first | refine Fr.setCell ?_ (fun hlt => absurd hlt (by dsimp only; omega)) _ | refine Fr.alloc ?_ _ | refine Fr.drewN ?_ _ | refine Fr.drew ?_ | exact Fr.refl _ _))) hf1
        clear hf1
        obtain ⟨p0, p1, p2, _, _, _⟩ := hA.c3
        obtain ⟨q0, q1, q2, _, _, _⟩ := hB.c3
        obtain ⟨r0, r1, r2, _, _, _⟩ := hC.c3
        go_wp2_with fail
        refine (B.out _).mono ?_
        rintro e w2 ⟨rfl, hf2⟩
        have hA := c3' hA hf2
        have hB := c3' hB hf2
        have hC := c3' hC hf2
        have g2 := g1.trans hf2
        clear hf2 g1 p0 p1 p2 q0 q1 q2 r0 r1 r2
        obtain ⟨p0, p1, p2, _, _, _⟩ := hA.c3
        obtain ⟨q0, q1, q2, _, _, _⟩ := hB.c3
        obtain ⟨r0, r1, r2, _, _, _⟩ := hC.c3
        go_wp2_with fail
        refine (C.out _).mono ?_
        rintro e w3 ⟨rfl, hf3⟩
        have hA := c3' hA hf3
        have hB := c3' hB hf3
        have hC := c3' hC hf3
        have g3 := g2.trans hf3
        clear hf3 g2 p0 p1 p2 q0 q1 q2 r0 r1 r2
        obtain ⟨p0, p1, p2, _, _, _⟩ := hA.c3
        obtain ⟨q0, q1, q2, _, _, _⟩ := hB.c3
        obtain ⟨r0, r1, r2, _, _, _⟩ := hC.c3
        go_wp2_with fail
        refine (P.out _).mono ?_
        rintro e w4 ⟨rfl, hf4⟩
        have hA := c3' hA hf4
        have hB := c3' hB hf4
        have hC := c3' hC hf4
        have g4 := g3.trans hf4
        clear hf4 g3 p0 p1 p2 q0 q1 q2 r0 r1 r2
        obtain ⟨p0, p1, p2, _, _, _⟩ := hA.c3
        obtain ⟨q0, q1, q2, _, _, _⟩ := hB.c3
        obtain ⟨r0, r1, r2, _, _, _⟩ := hC.c3
        go_wp2_with fail
        refine (Q.out _).mono ?_
        rintro e w5 ⟨rfl, hf5⟩
        have hA := c3' hA hf5
        have hB := c3' hB hf5
        have hC := c3' hC hf5
        have g5 := g4.trans hf5
        clear hf5 g4 p0 p1 p2 q0 q1 q2 r0 r1 r2
        obtain ⟨p0, p1, p2, _, _, _⟩ := hA.c3
        obtain ⟨q0, q1, q2, _, _, _⟩ := hB.c3
        obtain ⟨r0, r1, r2, _, _, _⟩ := hC.c3
        go_wp2_with fail
        refine (U.out _).mono ?_
        rintro e w6 ⟨rfl, hf6⟩
        have hA := c3' hA hf6
        have hB := c3' hB hf6
        have hC := c3' hC hf6
        have g6 := g5.trans hf6
        clear hf6 g5 p0 p1 p2 q0 q1 q2 r0 r1 r2
        obtain ⟨p0, p1, p2, _, _, _⟩ := hA.c3
        obtain ⟨q0, q1, q2, _, _, _⟩ := hB.c3
        obtain ⟨r0, r1, r2, _, _, _⟩ := hC.c3
        go_wp2_with fail
        refine (T.out _).mono ?_
        rintro e w7 ⟨rfl, hf7⟩
        have hA := c3' hA hf7
        have hB := c3' hB hf7
        have hC := c3' hC hf7
        have g7 := g6.trans hf7
        clear hf7 g6 p0 p1 p2 q0 q1 q2 r0 r1 r2
        obtain ⟨p0, p1, p2, _, _, _⟩ := hA.c3
        obtain ⟨q0, q1, q2, _, _, _⟩ := hB.c3
        obtain ⟨r0, r1, r2, _, _, _⟩ := hC.c3
        go_wp2_with fail
        refine (V.out _).mono ?_
        rintro e w8 ⟨rfl, hf8⟩
        have hA := c3' hA hf8
        have hB := c3' hB hf8
        have hC := c3' hC hf8
        have g8 := g7.trans hf8
        clear hf8 g7 p0 p1 p2 q0 q1 q2 r0 r1 r2
        obtain ⟨p0, p1, p2, _, _, _⟩ := hA.c3
        obtain ⟨q0, q1, q2, _, _, _⟩ := hB.c3
        obtain ⟨r0, r1, r2, _, _, _⟩ := hC.c3
        go_wp2_with fail
        refine (L.out _).mono ?_
        rintro e w9 ⟨rfl, hf9⟩
        have hA := c3' hA hf9
        have hB := c3' hB hf9
        have hC := c3' hC hf9
        have g9 := g8.trans hf9
        clear hf9 g8 p0 p1 p2 q0 q1 q2 r0 r1 r2
        obtain ⟨p0, p1, p2, _, _, _⟩ := hA.c3
        obtain ⟨q0, q1, q2, _, _, _⟩ := hB.c3
        obtain ⟨r0, r1, r2, _, _, _⟩ := hC.c3
        go_wp2_with fail
        exact bodyPost_ret (v := .bool true) (by simp [results, Try.results4, go_sem] <;> omega) rfl ⟨rfl, by (repeat' (with_reducible first | exact g9 | refine Fr.setCell ?_ (fun hlt => absurd hlt (by dsimp only; omega)) _ | refine Fr.alloc ?_ _ | refine Fr.drewN ?_ _ | refine Fr.drew ?_))⟩
    · have hu := Bool.eq_false_iff.2 hu
      simp only [hu] at kU
      clear hu
      by_cases hv : bz ax ay ax ay cx cy = true
      · obtain ⟨rfl, rfl⟩ := bz_at hv
        simp only [hv] at kV
        clear hv
        have A := Lib.hid kA
        have B := Lib.hid kB
        have C := Lib.hid kC
        have L := Lib.hid kL
        have U := Lib.hid kU
        have P := Lib.hid kP
        have Q := Lib.hid kQ
        have V := Lib.hid kV
        have T := Lib.hid kT
        clear kA kB kC kL kU kP kQ kV kT
        go_enter Try.func4, Try.ntmps4
        go_wp2_with fail
        refine (A.out _).mono ?_
        rintro e w1 ⟨rfl, hf1⟩
        have hA : Bk w1 w.heap.size 23 #[.int .i64 ai, .int .i64 cx, .int .i64 cy] := c3' (by (repeat' (first | ((with_reducible refine new' ?_); simp; done) | with_reducible refine Bk.alloc ?_ _ | with_reducible refine Bk.far ?_ (by dsimp only; omega) _ | with_reducible refine Bk.drewN ?_ _ | with_reducible refine Bk.drew ?_))) hf1
        have hB : Bk w1 (w.heap.size + 1) 23 #[.int .i64 bi, .int .i64 bx, .int .i64 bv] := c3' (by (repeat' (first | ((with_reducible refine new' ?_); simp; done) | with_reducible refine Bk.alloc ?_ _ | with_reducible refine Bk.far ?_ (by dsimp only; omega) _ | with_reducible refine Bk.drewN ?_ _ | with_reducible refine Bk.drew ?_))) hf1
        have hC : Bk w1 (w.heap.size + 1 + 1) 23 #[.int .i64 ci, .int .i64 cx, .int .i64 cy] := c3' (by (repeat' (first | ((with_reducible refine new' ?_); simp; done) | with_reducible refine Bk.alloc ?_ _ | with_reducible refine Bk.far ?_ (by dsimp only; omega) _ | with_reducible refine Bk.drewN ?_ _ | with_reducible refine Bk.drew ?_))) hf1
        have g1 : Fr Nil w w1 := Fr.trans (by (repeat' (with_reducible first | refine Fr.setCell ?_ (fun hlt => absurd hlt (by dsimp only; omega)) _ | refine Fr.alloc ?_ _ | refine Fr.drewN ?_ _ | refine Fr.drew ?_ | exact Fr.refl _ _))) hf1
        clear hf1
        obtain ⟨p0, p1, p2, _, _, _⟩ := hA.c3
        obtain ⟨q0, q1, q2, _, _, _⟩ := hB.c3
        obtain ⟨r0, r1, r2, _, _, _⟩ := hC.c3
        go_wp2_with fail
        refine (B.out _).mono ?_
        rintro e w2 ⟨rfl, hf2⟩
        have hA := c3' hA hf2
        have hB := c3' hB hf2
        have hC := c3' hC hf2
        have g2 := g1.trans hf2
        clear hf2 g1 p0 p1 p2 q0 q1 q2 r0 r1 r2
        obtain ⟨p0, p1, p2, _, _, _⟩ := hA.c3
        obtain ⟨q0, q1, q2, _, _, _⟩ := hB.c3
        obtain ⟨r0, r1, r2, _, _, _⟩ := hC.c3
        go_wp2_with fail
        refine (C.out _).mono ?_
        rintro e w3 ⟨rfl, hf3⟩
        have hA := c3' hA hf3
        have hB := c3' hB hf3
        have hC := c3' hC hf3
        have g3 := g2.trans hf3
        clear hf3 g2 p0 p1 p2 q0 q1 q2 r0 r1 r2
        obtain ⟨p0, p1, p2, _, _, _⟩ := hA.c3
        obtain ⟨q0, q1, q2, _, _, _⟩ := hB.c3
        obtain ⟨r0, r1, r2, _, _, _⟩ := hC.c3
        go_wp2_with fail
        refine (P.out _).mono ?_
        rintro e w4 ⟨rfl, hf4⟩
        have hA := c3' hA hf4
        have hB := c3' hB hf4
        have hC := c3' hC hf4
        have g4 := g3.trans hf4
        clear hf4 g3 p0 p1 p2 q0 q1 q2 r0 r1 r2
        obtain ⟨p0, p1, p2, _, _, _⟩ := hA.c3
        obtain ⟨q0, q1, q2, _, _, _⟩ := hB.c3
        obtain ⟨r0, r1, r2, _, _, _⟩ := hC.c3
        go_wp2_with fail
        refine (Q.out _).mono ?_
        rintro e w5 ⟨rfl, hf5⟩
        have hA := c3' hA hf5
        have hB := c3' hB hf5
        have hC := c3' hC hf5
        have g5 := g4.trans hf5
        clear hf5 g4 p0 p1 p2 q0 q1 q2 r0 r1 r2
        obtain ⟨p0, p1, p2, _, _, _⟩ := hA.c3
        obtain ⟨q0, q1, q2, _, _, _⟩ := hB.c3
        obtain ⟨r0, r1, r2, _, _, _⟩ := hC.c3
        go_wp2_with fail
        refine (U.out _).mono ?_
        rintro e w6 ⟨rfl, hf6⟩
        have hA := c3' hA hf6
        have hB := c3' hB hf6
        have hC := c3' hC hf6
        have g6 := g5.trans hf6
        clear hf6 g5 p0 p1 p2 q0 q1 q2 r0 r1 r2
        obtain ⟨p0, p1, p2, _, _, _⟩ := hA.c3
        obtain ⟨q0, q1, q2, _, _, _⟩ := hB.c3
        obtain ⟨r0, r1, r2, _, _, _⟩ := hC.c3
        go_wp2_with fail
        refine (V.out _).mono ?_
        rintro e w7 ⟨rfl, hf7⟩
        have hA := c3' hA hf7
        have hB := c3' hB hf7
        have hC := c3' hC hf7
        have g7 := g6.trans hf7
        clear hf7 g6 p0 p1 p2 q0 q1 q2 r0 r1 r2
        obtain ⟨p0, p1, p2, _, _, _⟩ := hA.c3
        obtain ⟨q0, q1, q2, _, _, _⟩ := hB.c3
        obtain ⟨r0, r1, r2, _, _, _⟩ := hC.c3
        go_wp2_with fail
        refine (L.out _).mono ?_
        rintro e w8 ⟨rfl, hf8⟩
        have hA := c3' hA hf8
        have hB := c3' hB hf8
        have hC := c3' hC hf8
        have g8 := g7.trans hf8
        clear hf8 g7 p0 p1 p2 q0 q1 q2 r0 r1 r2
        obtain ⟨p0, p1, p2, _, _, _⟩ := hA.c3
        obtain ⟨q0, q1, q2, _, _, _⟩ := hB.c3
        obtain ⟨r0, r1, r2, _, _, _⟩ := hC.c3
        go_wp2_with fail
        exact bodyPost_ret (v := .bool true) (by simp [results, Try.results4, go_sem] <;> omega) rfl ⟨rfl, by (repeat' (with_reducible first | exact g8 | refine Fr.setCell ?_ (fun hlt => absurd hlt (by dsimp only; omega)) _ | refine Fr.alloc ?_ _ | refine Fr.drewN ?_ _ | refine Fr.drew ?_))⟩
      · have hv := Bool.eq_false_iff.2 hv
        simp only [hv] at kV
        clear hv
        have A := Lib.hid kA
        have B := Lib.hid kB
        have C := Lib.hid kC
        have L := Lib.hid kL
        have U := Lib.hid kU
        have P := Lib.hid kP
        have Q := Lib.hid kQ
        have V := Lib.hid kV
        have T := Lib.hid kT
        clear kA kB kC kL kU kP kQ kV kT
        go_enter Try.func4, Try.ntmps4
        go_wp2_with fail
        refine (A.out _).mono ?_
        rintro e w1 ⟨rfl, hf1⟩
        have hA : Bk w1 w.heap.size 23 #[.int .i64 ai, .int .i64 ax, .int .i64 ay] := c3' (by (repeat' (first | ((with_reducible refine new' ?_); simp; done) | with_reducible refine Bk.alloc ?_ _ | with_reducible refine Bk.far ?_ (by dsimp only; omega) _ | with_reducible refine Bk.drewN ?_ _ | with_reducible refine Bk.drew ?_))) hf1
        have hB : Bk w1 (w.heap.size + 1) 23 #[.int .i64 bi, .int .i64 bx, .int .i64 bv] := c3' (by (repeat' (first | ((with_reducible refine new' ?_); simp; done) | with_reducible refine Bk.alloc ?_ _ | with_reducible refine Bk.far ?_ (by dsimp only; omega) _ | with_reducible refine Bk.drewN ?_ _ | with_reducible refine Bk.drew ?_))) hf1
        have hC : Bk w1 (w.heap.size + 1 + 1) 23 #[.int .i64 ci, .int .i64 cx, .int .i64 cy] := c3' (by (repeat' (first | ((with_reducible refine new' ?_); simp; done) | with_reducible refine Bk.alloc ?_ _ | with_reducible refine Bk.far ?_ (by dsimp only; omega) _ | with_reducible refine Bk.drewN ?_ _ | with_reducible refine Bk.drew ?_))) hf1
        have g1 : Fr Nil w w1 := Fr.trans (by (repeat' (with_reducible first | refine Fr.setCell ?_ (fun hlt => absurd hlt (by dsimp only; omega)) _ | refine Fr.alloc ?_ _ | refine Fr.drewN ?_ _ | refine Fr.drew ?_ | exact Fr.refl _ _))) hf1
        clear hf1
        obtain ⟨p0, p1, p2, _, _, _⟩ := hA.c3
        obtain ⟨q0, q1, q2, _, _, _⟩ := hB.c3
        obtain ⟨r0, r1, r2, _, _, _⟩ := hC.c3
        go_wp2_with fail
        refine (B.out _).mono ?_
        rintro e w2 ⟨rfl, hf2⟩
        have hA := c3' hA hf2
        have hB := c3' hB hf2
        have hC := c3' hC hf2
        have g2 := g1.trans hf2
        clear hf2 g1 p0 p1 p2 q0 q1 q2 r0 r1 r2
        obtain ⟨p0, p1, p2, _, _, _⟩ := hA.c3
        obtain ⟨q0, q1, q2, _, _, _⟩ := hB.c3
        obtain ⟨r0, r1, r2, _, _, _⟩ := hC.c3
        go_wp2_with fail
        refine (C.out _).mono ?_
        rintro e w3 ⟨rfl, hf3⟩
        have hA := c3' hA hf3
        have hB := c3' hB hf3
        have hC := c3' hC hf3
        have g3 := g2.trans hf3
        clear hf3 g2 p0 p1 p2 q0 q1 q2 r0 r1 r2
        obtain ⟨p0, p1, p2, _, _, _⟩ := hA.c3
        obtain ⟨q0, q1, q2, _, _, _⟩ := hB.c3
        obtain ⟨r0, r1, r2, _, _, _⟩ := hC.c3
        go_wp2_with fail
        refine (P.out _).mono ?_
        rintro e w4 ⟨rfl, hf4⟩
        have hA := c3' hA hf4
        have hB := c3' hB hf4
        have hC := c3' hC hf4
        have g4 := g3.trans hf4
        clear hf4 g3 p0 p1 p2 q0 q1 q2 r0 r1 r2
        obtain ⟨p0, p1, p2, _, _, _⟩ := hA.c3
        obtain ⟨q0, q1, q2, _, _, _⟩ := hB.c3
        obtain ⟨r0, r1, r2, _, _, _⟩ := hC.c3
        go_wp2_with fail
        refine (Q.out _).mono ?_
        rintro e w5 ⟨rfl, hf5⟩
        have hA := c3' hA hf5
        have hB := c3' hB hf5
        have hC := c3' hC hf5
        have g5 := g4.trans hf5
        clear hf5 g4 p0 p1 p2 q0 q1 q2 r0 r1 r2
        obtain ⟨p0, p1, p2, _, _, _⟩ := hA.c3
        obtain ⟨q0, q1, q2, _, _, _⟩ := hB.c3
        obtain ⟨r0, r1, r2, _, _, _⟩ := hC.c3
        go_wp2_with fail
        refine (U.out _).mono ?_
        rintro e w6 ⟨rfl, hf6⟩
        have hA := c3' hA hf6
        have hB := c3' hB hf6
        have hC := c3' hC hf6
        have g6 := g5.trans hf6
        clear hf6 g5 p0 p1 p2 q0 q1 q2 r0 r1 r2
        obtain ⟨p0, p1, p2, _, _, _⟩ := hA.c3
        obtain ⟨q0, q1, q2, _, _, _⟩ := hB.c3
        obtain ⟨r0, r1, r2, _, _, _⟩ := hC.c3
        go_wp2_with fail
        refine (V.out _).mono ?_
        rintro e w7 ⟨rfl, hf7⟩
        have hA := c3' hA hf7
        have hB := c3' hB hf7
        have hC := c3' hC hf7
        have g7 := g6.trans hf7
        clear hf7 g6 p0 p1 p2 q0 q1 q2 r0 r1 r2
        obtain ⟨p0, p1, p2, _, _, _⟩ := hA.c3
        obtain ⟨q0, q1, q2, _, _, _⟩ := hB.c3
        obtain ⟨r0, r1, r2, _, _, _⟩ := hC.c3
        go_wp2_with fail
        refine (L.out _).mono ?_
        rintro e w8 ⟨rfl, hf8⟩
        have hA := c3' hA hf8
        have hB := c3' hB hf8
        have hC := c3' hC hf8
        have g8 := g7.trans hf8
        clear hf8 g7 p0 p1 p2 q0 q1 q2 r0 r1 r2
        obtain ⟨p0, p1, p2, _, _, _⟩ := hA.c3
        obtain ⟨q0, q1, q2, _, _, _⟩ := hB.c3
        obtain ⟨r0, r1, r2, _, _, _⟩ := hC.c3
        go_wp2_with fail
        exact bodyPost_ret (v := .bool true) (by simp [results, Try.results4, go_sem] <;> omega) rfl ⟨rfl, by (repeat' (with_reducible first | exact g8 | refine Fr.setCell ?_ (fun hlt => absurd hlt (by dsimp only; omega)) _ | refine Fr.alloc ?_ _ | refine Fr.drewN ?_ _ | refine Fr.drew ?_))⟩
  · have hl := Bool.eq_false_iff.2 hl
    simp only [bz_not hl] at kU
    generalize lieB ax ay = ba at *
    generalize lieB bx bv = bb at *
    generalize lieB cx cy = bc at *
    have A := Lib.hid kA
    have B := Lib.hid kB
    have C := Lib.hid kC
    have L := Lib.hid kL
    have U := Lib.hid kU
    clear kA kB kC kL kU
    have z1 : ba = false ∨ (ba = true ∧ bb = false) ∨ (ba = true ∧ bb = true ∧ bc = false) := by cases ba <;> cases bb <;> cases bc <;> simp_all
    clear hl
    rcases z1 with rfl | ⟨rfl, rfl⟩ | ⟨rfl, rfl, rfl⟩
    · go_enter Try.func4, Try.ntmps4
      go_wp2_with fail
      refine (A.out _).mono ?_
      rintro e w1 ⟨rfl, hf1⟩
      have hA : Bk w1 w.heap.size 23 #[.int .i64 ai, .int .i64 ax, .int .i64 ay] := c3' (by (repeat' (first | ((with_reducible refine new' ?_); simp; done) | with_reducible refine Bk.alloc ?_ _ | with_reducible refine Bk.far ?_ (by dsimp only; omega) _ | with_reducible refine Bk.drewN ?_ _ | with_reducible refine Bk.drew ?_))) hf1
      have hB : Bk w1 (w.heap.size + 1) 23 #[.int .i64 bi, .int .i64 bx, .int .i64 bv] := c3' (by (repeat' (first | ((with_reducible refine new' ?_); simp; done) | with_reducible refine Bk.alloc ?_ _ | with_reducible refine Bk.far ?_ (by dsimp only; omega) _ | with_reducible refine Bk.drewN ?_ _ | with_reducible refine Bk.drew ?_))) hf1
      have hC : Bk w1 (w.heap.size + 1 + 1) 23 #[.int .i64 ci, .int .i64 cx, .int .i64 cy] := c3' (by (repeat' (first | ((with_reducible refine new' ?_); simp; done) | with_reducible refine Bk.alloc ?_ _ | with_reducible refine Bk.far ?_ (by dsimp only; omega) _ | with_reducible refine Bk.drewN ?_ _ | with_reducible refine Bk.drew ?_))) hf1
      have g1 : Fr Nil w w1 := Fr.trans (by (repeat' (with_reducible first | refine Fr.setCell ?_ (fun hlt => absurd hlt (by dsimp only; omega)) _ | refine Fr.alloc ?_ _ | refine Fr.drewN ?_ _ | refine Fr.drew ?_ | exact Fr.refl _ _))) hf1
      clear hf1
      obtain ⟨p0, p1, p2, _, _, _⟩ := hA.c3
      obtain ⟨q0, q1, q2, _, _, _⟩ := hB.c3
      obtain ⟨r0, r1, r2, _, _, _⟩ := hC.c3
      go_wp2_with fail
      refine (U.out _).mono ?_
      rintro e w2 ⟨rfl, hf2⟩
      have hA := c3' hA hf2
      have hB := c3' hB hf2
      have hC := c3' hC hf2
      have g2 := g1.trans hf2
      clear hf2 g1 p0 p1 p2 q0 q1 q2 r0 r1 r2
      obtain ⟨p0, p1, p2, _, _, _⟩ := hA.c3
      obtain ⟨q0, q1, q2, _, _, _⟩ := hB.c3
      obtain ⟨r0, r1, r2, _, _, _⟩ := hC.c3
      go_wp2_with fail
      refine (L.out _).mono ?_
      rintro e w3 ⟨rfl, hf3⟩
      have hA := c3' hA hf3
      have hB := c3' hB hf3
      have hC := c3' hC hf3
      have g3 := g2.trans hf3
      clear hf3 g2 p0 p1 p2 q0 q1 q2 r0 r1 r2
      obtain ⟨p0, p1, p2, _, _, _⟩ := hA.c3
      obtain ⟨q0, q1, q2, _, _, _⟩ := hB.c3
      obtain ⟨r0, r1, r2, _, _, _⟩ := hC.c3
      go_wp2_with fail
      exact bodyPost_ret (v := .bool true) (by simp [results, Try.results4, go_sem] <;> omega) rfl ⟨rfl, by (repeat' (with_reducible first | exact g3 | refine Fr.setCell ?_ (fun hlt => absurd hlt (by dsimp only; omega)) _ | refine Fr.alloc ?_ _ | refine Fr.drewN ?_ _ | refine Fr.drew ?_))⟩
    · go_enter Try.func4, Try.ntmps4
      go_wp2_with fail
      refine (A.out _).mono ?_
      rintro e w1 ⟨rfl, hf1⟩
      have hA : Bk w1 w.heap.size 23 #[.int .i64 ai, .int .i64 ax, .int .i64 ay] := c3' (by (repeat' (first | ((with_reducible refine new' ?_); simp; done) | with_reducible refine Bk.alloc ?_ _ | with_reducible refine Bk.far ?_ (by dsimp only; omega) _ | with_reducible refine Bk.drewN ?_ _ | with_reducible refine Bk.drew ?_))) hf1
      have hB : Bk w1 (w.heap.size + 1) 23 #[.int .i64 bi, .int .i64 bx, .int .i64 bv] := c3' (by (repeat' (first | ((with_reducible refine new' ?_); simp; done) | with_reducible refine Bk.alloc ?_ _ | with_reducible refine Bk.far ?_ (by dsimp only; omega) _ | with_reducible refine Bk.drewN ?_ _ | with_reducible refine Bk.drew ?_))) hf1
      have hC : Bk w1 (w.heap.size + 1 + 1) 23 #[.int .i64 ci, .int .i64 cx, .int .i64 cy] := c3' (by (repeat' (first | ((with_reducible refine new' ?_); simp; done) | with_reducible refine Bk.alloc ?_ _ | with_reducible refine Bk.far ?_ (by dsimp only; omega) _ | with_reducible refine Bk.drewN ?_ _ | with_reducible refine Bk.drew ?_))) hf1
      have g1 : Fr Nil w w1 := Fr.trans (by (repeat' (with_reducible first | refine Fr.setCell ?_ (fun hlt => absurd hlt (by dsimp only; omega)) _ | refine Fr.alloc ?_ _ | refine Fr.drewN ?_ _ | refine Fr.drew ?_ | exact Fr.refl _ _))) hf1
      clear hf1
      obtain ⟨p0, p1, p2, _, _, _⟩ := hA.c3
      obtain ⟨q0, q1, q2, _, _, _⟩ := hB.c3
      obtain ⟨r0, r1, r2, _, _, _⟩ := hC.c3
      go_wp2_with fail
      refine (B.out _).mono ?_
      rintro e w2 ⟨rfl, hf2⟩
      have hA := c3' hA hf2
      have hB := c3' hB hf2
      have hC := c3' hC hf2
      have g2 := g1.trans hf2
      clear hf2 g1 p0 p1 p2 q0 q1 q2 r0 r1 r2
      obtain ⟨p0, p1, p2, _, _, _⟩ := hA.c3
      obtain ⟨q0, q1, q2, _, _, _⟩ := hB.c3
      obtain ⟨r0, r1, r2, _, _, _⟩ := hC.c3
      go_wp2_with fail
      refine (U.out _).mono ?_
      rintro e w3 ⟨rfl, hf3⟩
      have hA := c3' hA hf3
      have hB := c3' hB hf3
      have hC := c3' hC hf3
      have g3 := g2.trans hf3
      clear hf3 g2 p0 p1 p2 q0 q1 q2 r0 r1 r2
      obtain ⟨p0, p1, p2, _, _, _⟩ := hA.c3
      obtain ⟨q0, q1, q2, _, _, _⟩ := hB.c3
      obtain ⟨r0, r1, r2, _, _, _⟩ := hC.c3
      go_wp2_with fail
      refine (L.out _).mono ?_
      rintro e w4 ⟨rfl, hf4⟩
      have hA := c3' hA hf4
      have hB := c3' hB hf4
      have hC := c3' hC hf4
      have g4 := g3.trans hf4
      clear hf4 g3 p0 p1 p2 q0 q1 q2 r0 r1 r2
      obtain ⟨p0, p1, p2, _, _, _⟩ := hA.c3
      obtain ⟨q0, q1, q2, _, _, _⟩ := hB.c3
      obtain ⟨r0, r1, r2, _, _, _⟩ := hC.c3
      go_wp2_with fail
      exact bodyPost_ret (v := .bool true) (by simp [results, Try.results4, go_sem] <;> omega) rfl ⟨rfl, by (repeat' (with_reducible first | exact g4 | refine Fr.setCell ?_ (fun hlt => absurd hlt (by dsimp only; omega)) _ | refine Fr.alloc ?_ _ | refine Fr.drewN ?_ _ | refine Fr.drew ?_))⟩
    · go_enter Try.func4, Try.ntmps4
      go_wp2_with fail
      refine (A.out _).mono ?_
      rintro e w1 ⟨rfl, hf1⟩
      have hA : Bk w1 w.heap.size 23 #[.int .i64 ai, .int .i64 ax, .int .i64 ay] := c3' (by (repeat' (first | ((with_reducible refine new' ?_); simp; done) | with_reducible refine Bk.alloc ?_ _ | with_reducible refine Bk.far ?_ (by dsimp only; omega) _ | with_reducible refine Bk.drewN ?_ _ | with_reducible refine Bk.drew ?_))) hf1
      have hB : Bk w1 (w.heap.size + 1) 23 #[.int .i64 bi, .int .i64 bx, .int .i64 bv] := c3' (by (repeat' (first | ((with_reducible refine new' ?_); simp; done) | with_reducible refine Bk.alloc ?_ _ | with_reducible refine Bk.far ?_ (by dsimp only; omega) _ | with_reducible refine Bk.drewN ?_ _ | with_reducible refine Bk.drew ?_))) hf1
      have hC : Bk w1 (w.heap.size + 1 + 1) 23 #[.int .i64 ci, .int .i64 cx, .int .i64 cy] := c3' (by (repeat' (first | ((with_reducible refine new' ?_); simp; done) | with_reducible refine Bk.alloc ?_ _ | with_reducible refine Bk.far ?_ (by dsimp only; omega) _ | with_reducible refine Bk.drewN ?_ _ | with_reducible refine Bk.drew ?_))) hf1
      have g1 : Fr Nil w w1 := Fr.trans (by (repeat' (with_reducible first | refine Fr.setCell ?_ (fun hlt => absurd hlt (by dsimp only; omega)) _ | refine Fr.alloc ?_ _ | refine Fr.drewN ?_ _ | refine Fr.drew ?_ | exact Fr.refl _ _))) hf1
      clear hf1
      obtain ⟨p0, p1, p2, _, _, _⟩ := hA.c3
      obtain ⟨q0, q1, q2, _, _, _⟩ := hB.c3
      obtain ⟨r0, r1, r2, _, _, _⟩ := hC.c3
      go_wp2_with fail
      refine (B.out _).mono ?_
      rintro e w2 ⟨rfl, hf2⟩
      have hA := c3' hA hf2
      have hB := c3' hB hf2
      have hC := c3' hC hf2
      have g2 := g1.trans hf2
      clear hf2 g1 p0 p1 p2 q0 q1 q2 r0 r1 r2
      obtain ⟨p0, p1, p2, _, _, _⟩ := hA.c3
      obtain ⟨q0, q1, q2, _, _, _⟩ := hB.c3
      obtain ⟨r0, r1, r2, _, _, _⟩ := hC.c3
      go_wp2_with fail
      refine (C.out _).mono ?_
      rintro e w3 ⟨rfl, hf3⟩
      have hA := c3' hA hf3
      have hB := c3' hB hf3
      have hC := c3' hC hf3
      have g3 := g2.trans hf3
      clear hf3 g2 p0 p1 p2 q0 q1 q2 r0 r1 r2
      obtain ⟨p0, p1, p2, _, _, _⟩ := hA.c3
      obtain ⟨q0, q1, q2, _, _, _⟩ := hB.c3
      obtain ⟨r0, r1, r2, _, _, _⟩ := hC.c3
      go_wp2_with fail
      refine (U.out _).mono ?_
      rintro e w4 ⟨rfl, hf4⟩
      have hA := c3' hA hf4
      have hB := c3' hB hf4
      have hC := c3' hC hf4
      have g4 := g3.trans hf4
      clear hf4 g3 p0 p1 p2 q0 q1 q2 r0 r1 r2
      obtain ⟨p0, p1, p2, _, _, _⟩ := hA.c3
      obtain ⟨q0, q1, q2, _, _, _⟩ := hB.c3
      obtain ⟨r0, r1, r2, _, _, _⟩ := hC.c3
      go_wp2_with fail
      refine (L.out _).mono ?_
      rintro e w5 ⟨rfl, hf5⟩
      have hA := c3' hA hf5
      have hB := c3' hB hf5
      have hC := c3' hC hf5
      have g5 := g4.trans hf5
      clear hf5 g4 p0 p1 p2 q0 q1 q2 r0 r1 r2
      obtain ⟨p0, p1, p2, _, _, _⟩ := hA.c3
      obtain ⟨q0, q1, q2, _, _, _⟩ := hB.c3
      obtain ⟨r0, r1, r2, _, _, _⟩ := hC.c3
      go_wp2_with fail
      exact bodyPost_ret (v := .bool true) (by simp [results, Try.results4, go_sem] <;> omega) rfl ⟨rfl, by (repeat' (with_reducible first | exact g5 | refine Fr.setCell ?_ (fun hlt => absurd hlt (by dsimp only; omega)) _ | refine Fr.alloc ?_ _ | refine Fr.drewN ?_ _ | refine Fr.drew ?_))⟩

end Go.Proofs.Ytpngeaklfjofiaa.KernF
