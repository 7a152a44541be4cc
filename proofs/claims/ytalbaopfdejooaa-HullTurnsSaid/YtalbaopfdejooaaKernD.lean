/- Chapter 3: the walks of within, Between, and of the laws KernTurns, KernBetween. -/
import Derived.Test.YtalbaopfdejooaaKernC
namespace Go.Proofs.Ytalbaopfdejooaa.KernD
open Go.RowKit Base WideA WideB WideE WideF KernA KernB KernC Quiet
set_option linter.unusedVariables false
set_option linter.unusedSimpArgs false

theorem btw_paths (n a b : Int) : (btw n a b = true ∧ ((a ≤ n ∧ n ≤ b) ∨ (a ≤ n ∧ b < n ∧ n ≤ a) ∨ (n < a ∧ b ≤ n))) ∨ (btw n a b = false ∧ ((a ≤ n ∧ b < n ∧ a < n) ∨ (n < a ∧ n < b))) := by
  unfold btw
  simp only [decide_eq_true_eq, decide_eq_false_iff_not]
  omega

set_option maxHeartbeats 2000000 in
theorem within_any (n a b : Int) (w : World) : Calls Try.prog 64 #[.int .i64 n, .int .i64 a, .int .i64 b] w fun e w' => e = .returned (.bool (btw n a b)) ∧ w' = w := by
  have key : ∀ r : Bool, ((r = true ∧ a ≤ b ∧ a ≤ n ∧ n ≤ b) ∨ (r = true ∧ b < a ∧ b ≤ n ∧ n ≤ a) ∨ (r = false ∧ a ≤ b ∧ n < a) ∨ (r = false ∧ a ≤ b ∧ a ≤ n ∧ b < n) ∨ (r = false ∧ b < a ∧ n < b) ∨ (r = false ∧ b < a ∧ b ≤ n ∧ a < n)) →
      Calls Try.prog 64 #[.int .i64 n, .int .i64 a, .int .i64 b] w fun e w' => e = .returned (.bool r) ∧ w' = w := by
    rintro r (⟨rfl, h1, h2, h3⟩ | ⟨rfl, h1, h2, h3⟩ | ⟨rfl, h1, h2⟩ | ⟨rfl, h1, h2, h3⟩ | ⟨rfl, h1, h2⟩ | ⟨rfl, h1, h2, h3⟩)
    all_goals
      go_enter Try.func64, Try.ntmps64
      go_wp2_with fail
      all_goals exact bodyPost_ret (v := .bool _) (by simp [results, Try.results64, go_sem] <;> omega) rfl ⟨rfl, rfl⟩
  refine key _ ?_
  have := btw_paths n a b
  rcases this with ⟨h, h'⟩ | ⟨h, h'⟩
  · rw [h]; simp; omega
  · rw [h]; simp; omega

theorem bz_lie {ax ay bx bv cx cy : Int} (h : (lieB ax ay && lieB bx bv && lieB cx cy) = true) (h' : tz ax ay bx bv cx cy = 0) : bz ax ay bx bv cx cy = (btw cx ax bx && btw cy ay bv) := by
  unfold bz
  rw [h, h']; rfl
theorem bz_turn {ax ay bx bv cx cy : Int} (h' : tz ax ay bx bv cx cy ≠ 0) : bz ax ay bx bv cx cy = false := by
  unfold bz
  simp [h']

set_option maxHeartbeats 16000000 in
theorem Between_any (ai ax ay bi bx bv ci cx cy : Int) (w : World) : Calls Try.prog 36 #[.agg #[.int .i64 ai, .int .i64 ax, .int .i64 ay], .agg #[.int .i64 bi, .int .i64 bx, .int .i64 bv], .agg #[.int .i64 ci, .int .i64 cx, .int .i64 cy]] w fun e w' => e = .returned (.bool (bz ax ay bx bv cx cy)) ∧ Fr Nil w w' := by
  have kA := fun W => lies_any ai ax ay W
  have kB := fun W => lies_any bi bx bv W
  have kC := fun W => lies_any ci cx cy W
  have kT := fun W => turn_any ai ax ay bi bx bv ci cx cy W
  by_cases hl : (lieB ax ay && lieB bx bv && lieB cx cy) = true
  · by_cases hz : tz ax ay bx bv cx cy = 0
    · rw [bz_lie hl hz]
      simp only [Bool.and_eq_true] at hl
      obtain ⟨⟨h1, h2⟩, h3⟩ := hl
      rw [hz] at kT
      simp only [h1, h2, h3] at kA kB kC
      clear h1 h2 h3 hz
      have A := Lib.hid kA
      have B := Lib.hid kB
      have C := Lib.hid kC
      have T := Lib.hid kT
      clear kA kB kC kT
      have kU := fun W => within_any cx ax bx W
      have kV := fun W => within_any cy ay bv W
      generalize btw cx ax bx = u at *
      generalize btw cy ay bv = v at *
      have U := Lib.hid kU
      have V := Lib.hid kV
      clear kU kV
      cases u <;> cases v
      all_goals
        go_enter Try.func36, Try.ntmps36
        go_wp2_with fail
        refine (A.out _).mono ?_
        rintro e w1 ⟨rfl, hf1⟩
        have hA : Bk w1 w.heap.size 34 #[.int .i64 ai, .int .i64 ax, .int .i64 ay] := c3' (by (repeat' (first | ((with_reducible refine new' ?_); simp; done) | with_reducible refine Bk.alloc ?_ _ | with_reducible refine Bk.far ?_ (by dsimp only; omega) _ | with_reducible refine Bk.drewN ?_ _ | with_reducible refine Bk.drew ?_))) hf1
        have hB : Bk w1 (w.heap.size + 1) 34 #[.int .i64 bi, .int .i64 bx, .int .i64 bv] := c3' (by (repeat' (first | ((with_reducible refine new' ?_); simp; done) | with_reducible refine Bk.alloc ?_ _ | with_reducible refine Bk.far ?_ (by dsimp only; omega) _ | with_reducible refine Bk.drewN ?_ _ | with_reducible refine Bk.drew ?_))) hf1
        have hC : Bk w1 (w.heap.size + 1 + 1) 34 #[.int .i64 ci, .int .i64 cx, .int .i64 cy] := c3' (by (repeat' (first | ((with_reducible refine new' ?_); simp; done) | with_reducible refine Bk.alloc ?_ _ | with_reducible refine Bk.far ?_ (by dsimp only; omega) _ | with_reducible refine Bk.drewN ?_ _ | with_reducible refine Bk.drew ?_))) hf1
        have g1 : Fr Nil w w1 := Fr.trans (by (repeat' (with_reducible first | refine Fr.setCell ?_ (fun hlt => absurd hlt (by dsimp only; omega)) _ | refine Fr.alloc ?_ _ | refine Fr.drewN ?_ _ | refine Fr.drew ?_ | exact Fr.refl _ _))) hf1
        clear hf1
        obtain ⟨p0, p1, p2, _, _, _⟩ := hA.c3
        obtain ⟨q0, q1, q2, _, _, _⟩ := hB.c3
        obtain ⟨r0, r1, r2, _, _, _⟩ := hC.c3
        go_wp2_with fail
        first
          | exact bodyPost_ret (v := .bool _) (by simp [results, Try.results36, go_sem] <;> omega) rfl ⟨rfl, by (repeat' (with_reducible first | exact g1 | refine Fr.setCell ?_ (fun hlt => absurd hlt (by dsimp only; omega)) _ | refine Fr.alloc ?_ _ | refine Fr.drewN ?_ _ | refine Fr.drew ?_))⟩
          | (refine (B.out _).mono ?_
             rintro e w2 ⟨rfl, hf2⟩
             have hA := c3' hA hf2
             have hB := c3' hB hf2
             have hC := c3' hC hf2
             have g2 := g1.trans hf2
             clear hf2 g1 p0 p1 p2 q0 q1 q2 r0 r1 r2
             obtain ⟨p0, p1, p2, _, _, _⟩ := hA.c3
             obtain ⟨q0, q1, q2, _, _, _⟩ := hB.c3
             obtain ⟨r0, r1, r2, _, _, _⟩ := hC.c3
             go_wp2_with fail
             first
               | exact bodyPost_ret (v := .bool _) (by simp [results, Try.results36, go_sem] <;> omega) rfl ⟨rfl, by (repeat' (with_reducible first | exact g2 | refine Fr.setCell ?_ (fun hlt => absurd hlt (by dsimp only; omega)) _ | refine Fr.alloc ?_ _ | refine Fr.drewN ?_ _ | refine Fr.drew ?_))⟩
               | (refine (C.out _).mono ?_
                  rintro e w3 ⟨rfl, hf3⟩
                  have hA := c3' hA hf3
                  have hB := c3' hB hf3
                  have hC := c3' hC hf3
                  have g3 := g2.trans hf3
                  clear hf3 g2 p0 p1 p2 q0 q1 q2 r0 r1 r2
                  obtain ⟨p0, p1, p2, _, _, _⟩ := hA.c3
                  obtain ⟨q0, q1, q2, _, _, _⟩ := hB.c3
                  obtain ⟨r0, r1, r2, _, _, _⟩ := hC.c3
                  go_wp2_with fail
                  first
                    | exact bodyPost_ret (v := .bool _) (by simp [results, Try.results36, go_sem] <;> omega) rfl ⟨rfl, by (repeat' (with_reducible first | exact g3 | refine Fr.setCell ?_ (fun hlt => absurd hlt (by dsimp only; omega)) _ | refine Fr.alloc ?_ _ | refine Fr.drewN ?_ _ | refine Fr.drew ?_))⟩
                    | (refine (T.out _).mono ?_
                       rintro e w4 ⟨rfl, hf4⟩
                       have hA := c3' hA hf4
                       have hB := c3' hB hf4
                       have hC := c3' hC hf4
                       have g4 := g3.trans hf4
                       clear hf4 g3 p0 p1 p2 q0 q1 q2 r0 r1 r2
                       obtain ⟨p0, p1, p2, _, _, _⟩ := hA.c3
                       obtain ⟨q0, q1, q2, _, _, _⟩ := hB.c3
                       obtain ⟨r0, r1, r2, _, _, _⟩ := hC.c3
                       go_wp2_with fail
                       first
                         | exact bodyPost_ret (v := .bool _) (by simp [results, Try.results36, go_sem] <;> omega) rfl ⟨rfl, by (repeat' (with_reducible first | exact g4 | refine Fr.setCell ?_ (fun hlt => absurd hlt (by dsimp only; omega)) _ | refine Fr.alloc ?_ _ | refine Fr.drewN ?_ _ | refine Fr.drew ?_))⟩
                         | (refine (U.out _).mono ?_
                            rintro e w5 ⟨rfl, rfl⟩
                            go_wp2_with fail
                            first
                              | exact bodyPost_ret (v := .bool _) (by simp [results, Try.results36, go_sem] <;> omega) rfl ⟨rfl, by (repeat' (with_reducible first | exact g4 | refine Fr.setCell ?_ (fun hlt => absurd hlt (by dsimp only; omega)) _ | refine Fr.alloc ?_ _ | refine Fr.drewN ?_ _ | refine Fr.drew ?_))⟩
                              | (refine (V.out _).mono ?_
                                 rintro e w5 ⟨rfl, rfl⟩
                                 go_wp2_with fail
                                 exact bodyPost_ret (v := .bool _) (by simp [results, Try.results36, go_sem] <;> omega) rfl ⟨rfl, by (repeat' (with_reducible first | exact g4 | refine Fr.setCell ?_ (fun hlt => absurd hlt (by dsimp only; omega)) _ | refine Fr.alloc ?_ _ | refine Fr.drewN ?_ _ | refine Fr.drew ?_))⟩)))))
    · rw [bz_turn hz]
      simp only [Bool.and_eq_true] at hl
      obtain ⟨⟨h1, h2⟩, h3⟩ := hl
      simp only [h1, h2, h3] at kA kB kC
      clear h1 h2 h3
      generalize tz ax ay bx bv cx cy = z at *
      have hz1 : (z == 0) = false := by simpa using hz
      have hz2 : (z != 0) = true := by simpa using hz
      clear hz
      have A := Lib.hid kA
      have B := Lib.hid kB
      have C := Lib.hid kC
      have T := Lib.hid kT
      clear kA kB kC kT
      go_enter Try.func36, Try.ntmps36
      go_wp2_with fail
      refine (A.out _).mono ?_
      rintro e w1 ⟨rfl, hf1⟩
      have hA : Bk w1 w.heap.size 34 #[.int .i64 ai, .int .i64 ax, .int .i64 ay] := c3' (by (repeat' (first | ((with_reducible refine new' ?_); simp; done) | with_reducible refine Bk.alloc ?_ _ | with_reducible refine Bk.far ?_ (by dsimp only; omega) _ | with_reducible refine Bk.drewN ?_ _ | with_reducible refine Bk.drew ?_))) hf1
      have hB : Bk w1 (w.heap.size + 1) 34 #[.int .i64 bi, .int .i64 bx, .int .i64 bv] := c3' (by (repeat' (first | ((with_reducible refine new' ?_); simp; done) | with_reducible refine Bk.alloc ?_ _ | with_reducible refine Bk.far ?_ (by dsimp only; omega) _ | with_reducible refine Bk.drewN ?_ _ | with_reducible refine Bk.drew ?_))) hf1
      have hC : Bk w1 (w.heap.size + 1 + 1) 34 #[.int .i64 ci, .int .i64 cx, .int .i64 cy] := c3' (by (repeat' (first | ((with_reducible refine new' ?_); simp; done) | with_reducible refine Bk.alloc ?_ _ | with_reducible refine Bk.far ?_ (by dsimp only; omega) _ | with_reducible refine Bk.drewN ?_ _ | with_reducible refine Bk.drew ?_))) hf1
      have g1 : Fr Nil w w1 := Fr.trans (by (repeat' (with_reducible first | refine Fr.setCell ?_ (fun hlt => absurd hlt (by dsimp only; omega)) _ | refine Fr.alloc ?_ _ | refine Fr.drewN ?_ _ | refine Fr.drew ?_ | exact Fr.refl _ _))) hf1
      clear hf1
      obtain ⟨p0, p1, p2, _, _, _⟩ := hA.c3
      obtain ⟨q0, q1, q2, _, _, _⟩ := hB.c3
      obtain ⟨r0, r1, r2, _, _, _⟩ := hC.c3
      go_wp2_with fail
      first
        | exact bodyPost_ret (v := .bool false) (by simp [results, Try.results36, go_sem] <;> omega) rfl ⟨rfl, by (repeat' (with_reducible first | exact g1 | refine Fr.setCell ?_ (fun hlt => absurd hlt (by dsimp only; omega)) _ | refine Fr.alloc ?_ _ | refine Fr.drewN ?_ _ | refine Fr.drew ?_))⟩
        | (refine (B.out _).mono ?_
           rintro e w2 ⟨rfl, hf2⟩
           have hA := c3' hA hf2
           have hB := c3' hB hf2
           have hC := c3' hC hf2
           have g2 := g1.trans hf2
           clear hf2 g1 p0 p1 p2 q0 q1 q2 r0 r1 r2
           obtain ⟨p0, p1, p2, _, _, _⟩ := hA.c3
           obtain ⟨q0, q1, q2, _, _, _⟩ := hB.c3
           obtain ⟨r0, r1, r2, _, _, _⟩ := hC.c3
           go_wp2_with fail
           first
             | exact bodyPost_ret (v := .bool false) (by simp [results, Try.results36, go_sem] <;> omega) rfl ⟨rfl, by (repeat' (with_reducible first | exact g2 | refine Fr.setCell ?_ (fun hlt => absurd hlt (by dsimp only; omega)) _ | refine Fr.alloc ?_ _ | refine Fr.drewN ?_ _ | refine Fr.drew ?_))⟩
             | (refine (C.out _).mono ?_
                rintro e w3 ⟨rfl, hf3⟩
                have hA := c3' hA hf3
                have hB := c3' hB hf3
                have hC := c3' hC hf3
                have g3 := g2.trans hf3
                clear hf3 g2 p0 p1 p2 q0 q1 q2 r0 r1 r2
                obtain ⟨p0, p1, p2, _, _, _⟩ := hA.c3
                obtain ⟨q0, q1, q2, _, _, _⟩ := hB.c3
                obtain ⟨r0, r1, r2, _, _, _⟩ := hC.c3
                go_wp2_with fail
                first
                  | exact bodyPost_ret (v := .bool false) (by simp [results, Try.results36, go_sem] <;> omega) rfl ⟨rfl, by (repeat' (with_reducible first | exact g3 | refine Fr.setCell ?_ (fun hlt => absurd hlt (by dsimp only; omega)) _ | refine Fr.alloc ?_ _ | refine Fr.drewN ?_ _ | refine Fr.drew ?_))⟩
                  | (refine (T.out _).mono ?_
                     rintro e w4 ⟨rfl, hf4⟩
                     have hA := c3' hA hf4
                     have hB := c3' hB hf4
                     have hC := c3' hC hf4
                     have g4 := g3.trans hf4
                     clear hf4 g3 p0 p1 p2 q0 q1 q2 r0 r1 r2
                     obtain ⟨p0, p1, p2, _, _, _⟩ := hA.c3
                     obtain ⟨q0, q1, q2, _, _, _⟩ := hB.c3
                     obtain ⟨r0, r1, r2, _, _, _⟩ := hC.c3
                     go_wp2_with fail
                     exact bodyPost_ret (v := .bool false) (by simp [results, Try.results36, go_sem] <;> omega) rfl ⟨rfl, by (repeat' (with_reducible first | exact g4 | refine Fr.setCell ?_ (fun hlt => absurd hlt (by dsimp only; omega)) _ | refine Fr.alloc ?_ _ | refine Fr.drewN ?_ _ | refine Fr.drew ?_))⟩)))
  · have hl := Bool.eq_false_iff.2 hl
    rw [bz_not hl]
    generalize lieB ax ay = ba at *
    generalize lieB bx bv = bb at *
    generalize lieB cx cy = bc at *
    have A := Lib.hid kA
    have B := Lib.hid kB
    have C := Lib.hid kC
    clear kA kB kC kT
    cases ba <;> cases bb <;> cases bc
    case neg.true.true.true => cases hl
    all_goals
      clear hl
      go_enter Try.func36, Try.ntmps36
      go_wp2_with fail
      refine (A.out _).mono ?_
      rintro e w1 ⟨rfl, hf1⟩
      have hA : Bk w1 w.heap.size 34 #[.int .i64 ai, .int .i64 ax, .int .i64 ay] := c3' (by (repeat' (first | ((with_reducible refine new' ?_); simp; done) | with_reducible refine Bk.alloc ?_ _ | with_reducible refine Bk.far ?_ (by dsimp only; omega) _ | with_reducible refine Bk.drewN ?_ _ | with_reducible refine Bk.drew ?_))) hf1
      have hB : Bk w1 (w.heap.size + 1) 34 #[.int .i64 bi, .int .i64 bx, .int .i64 bv] := c3' (by (repeat' (first | ((with_reducible refine new' ?_); simp; done) | with_reducible refine Bk.alloc ?_ _ | with_reducible refine Bk.far ?_ (by dsimp only; omega) _ | with_reducible refine Bk.drewN ?_ _ | with_reducible refine Bk.drew ?_))) hf1
      have hC : Bk w1 (w.heap.size + 1 + 1) 34 #[.int .i64 ci, .int .i64 cx, .int .i64 cy] := c3' (by (repeat' (first | ((with_reducible refine new' ?_); simp; done) | with_reducible refine Bk.alloc ?_ _ | with_reducible refine Bk.far ?_ (by dsimp only; omega) _ | with_reducible refine Bk.drewN ?_ _ | with_reducible refine Bk.drew ?_))) hf1
      have g1 : Fr Nil w w1 := Fr.trans (by (repeat' (with_reducible first | refine Fr.setCell ?_ (fun hlt => absurd hlt (by dsimp only; omega)) _ | refine Fr.alloc ?_ _ | refine Fr.drewN ?_ _ | refine Fr.drew ?_ | exact Fr.refl _ _))) hf1
      clear hf1
      obtain ⟨p0, p1, p2, _, _, _⟩ := hA.c3
      obtain ⟨q0, q1, q2, _, _, _⟩ := hB.c3
      obtain ⟨r0, r1, r2, _, _, _⟩ := hC.c3
      go_wp2_with fail
      first
        | exact bodyPost_ret (v := .bool false) (by simp [results, Try.results36, go_sem] <;> omega) rfl ⟨rfl, by (repeat' (with_reducible first | exact g1 | refine Fr.setCell ?_ (fun hlt => absurd hlt (by dsimp only; omega)) _ | refine Fr.alloc ?_ _ | refine Fr.drewN ?_ _ | refine Fr.drew ?_))⟩
        | (refine (B.out _).mono ?_
           rintro e w2 ⟨rfl, hf2⟩
           have hA := c3' hA hf2
           have hB := c3' hB hf2
           have hC := c3' hC hf2
           have g2 := g1.trans hf2
           clear hf2 g1 p0 p1 p2 q0 q1 q2 r0 r1 r2
           obtain ⟨p0, p1, p2, _, _, _⟩ := hA.c3
           obtain ⟨q0, q1, q2, _, _, _⟩ := hB.c3
           obtain ⟨r0, r1, r2, _, _, _⟩ := hC.c3
           go_wp2_with fail
           first
             | exact bodyPost_ret (v := .bool false) (by simp [results, Try.results36, go_sem] <;> omega) rfl ⟨rfl, by (repeat' (with_reducible first | exact g2 | refine Fr.setCell ?_ (fun hlt => absurd hlt (by dsimp only; omega)) _ | refine Fr.alloc ?_ _ | refine Fr.drewN ?_ _ | refine Fr.drew ?_))⟩
             | (refine (C.out _).mono ?_
                rintro e w3 ⟨rfl, hf3⟩
                have hA := c3' hA hf3
                have hB := c3' hB hf3
                have hC := c3' hC hf3
                have g3 := g2.trans hf3
                clear hf3 g2 p0 p1 p2 q0 q1 q2 r0 r1 r2
                obtain ⟨p0, p1, p2, _, _, _⟩ := hA.c3
                obtain ⟨q0, q1, q2, _, _, _⟩ := hB.c3
                obtain ⟨r0, r1, r2, _, _, _⟩ := hC.c3
                go_wp2_with fail
                exact bodyPost_ret (v := .bool false) (by simp [results, Try.results36, go_sem] <;> omega) rfl ⟨rfl, by (repeat' (with_reducible first | exact g3 | refine Fr.setCell ?_ (fun hlt => absurd hlt (by dsimp only; omega)) _ | refine Fr.alloc ?_ _ | refine Fr.drewN ?_ _ | refine Fr.drew ?_))⟩))

set_option maxHeartbeats 16000000 in
theorem rBetween_any (ai ax ay bi bx bv ci cx cy : Int) (w : World) : Calls Try.prog 58 #[.agg #[.int .i64 ai, .int .i64 ax, .int .i64 ay], .agg #[.int .i64 bi, .int .i64 bx, .int .i64 bv], .agg #[.int .i64 ci, .int .i64 cx, .int .i64 cy]] w fun e w' => e = .returned (.bool (bz ax ay bx bv cx cy)) ∧ Fr Nil w w' := by
  have kA := fun W => rlies_any ai ax ay W
  have kB := fun W => rlies_any bi bx bv W
  have kC := fun W => rlies_any ci cx cy W
  have kT := fun W => rturn_any ai ax ay bi bx bv ci cx cy W
  by_cases hl : (lieB ax ay && lieB bx bv && lieB cx cy) = true
  · by_cases hz : tz ax ay bx bv cx cy = 0
    · rw [bz_lie hl hz]
      simp only [Bool.and_eq_true] at hl
      obtain ⟨⟨h1, h2⟩, h3⟩ := hl
      rw [hz] at kT
      simp only [h1, h2, h3] at kA kB kC
      clear h1 h2 h3 hz
      have A := Lib.hid kA
      have B := Lib.hid kB
      have C := Lib.hid kC
      have T := Lib.hid kT
      clear kA kB kC kT
      go_enter Try.func58, Try.ntmps58
      go_wp2_with fail
      refine (A.out _).mono ?_
      rintro e w1 ⟨rfl, hf1⟩
      have hA : Bk w1 w.heap.size 34 #[.int .i64 ai, .int .i64 ax, .int .i64 ay] := c3' (by (repeat' (first | ((with_reducible refine new' ?_); simp; done) | with_reducible refine Bk.alloc ?_ _ | with_reducible refine Bk.far ?_ (by dsimp only; omega) _ | with_reducible refine Bk.drewN ?_ _ | with_reducible refine Bk.drew ?_))) hf1
      have hB : Bk w1 (w.heap.size + 1) 34 #[.int .i64 bi, .int .i64 bx, .int .i64 bv] := c3' (by (repeat' (first | ((with_reducible refine new' ?_); simp; done) | with_reducible refine Bk.alloc ?_ _ | with_reducible refine Bk.far ?_ (by dsimp only; omega) _ | with_reducible refine Bk.drewN ?_ _ | with_reducible refine Bk.drew ?_))) hf1
      have hC : Bk w1 (w.heap.size + 1 + 1) 34 #[.int .i64 ci, .int .i64 cx, .int .i64 cy] := c3' (by (repeat' (first | ((with_reducible refine new' ?_); simp; done) | with_reducible refine Bk.alloc ?_ _ | with_reducible refine Bk.far ?_ (by dsimp only; omega) _ | with_reducible refine Bk.drewN ?_ _ | with_reducible refine Bk.drew ?_))) hf1
      have g1 : Fr Nil w w1 := Fr.trans (by (repeat' (with_reducible first | refine Fr.setCell ?_ (fun hlt => absurd hlt (by dsimp only; omega)) _ | refine Fr.alloc ?_ _ | refine Fr.drewN ?_ _ | refine Fr.drew ?_ | exact Fr.refl _ _))) hf1
      clear hf1
      obtain ⟨p0, p1, p2, _, _, _⟩ := hA.c3
      obtain ⟨q0, q1, q2, _, _, _⟩ := hB.c3
      obtain ⟨r0, r1, r2, _, _, _⟩ := hC.c3
      go_wp2_with fail
      refine (B.out _).mono ?_
      rintro e w2 ⟨rfl, hf2⟩
      have hA := c3' hA hf2
      have hB := c3' hB hf2
      have hC := c3' hC hf2
      have g2 := g1.trans hf2
      clear hf2 g1 p0 p1 p2 q0 q1 q2 r0 r1 r2
      obtain ⟨p0, p1, p2, _, _, _⟩ := hA.c3
      obtain ⟨q0, q1, q2, _, _, _⟩ := hB.c3
      obtain ⟨r0, r1, r2, _, _, _⟩ := hC.c3
      go_wp2_with fail
      refine (C.out _).mono ?_
      rintro e w3 ⟨rfl, hf3⟩
      have hA := c3' hA hf3
      have hB := c3' hB hf3
      have hC := c3' hC hf3
      have g3 := g2.trans hf3
      clear hf3 g2 p0 p1 p2 q0 q1 q2 r0 r1 r2
      obtain ⟨p0, p1, p2, _, _, _⟩ := hA.c3
      obtain ⟨q0, q1, q2, _, _, _⟩ := hB.c3
      obtain ⟨r0, r1, r2, _, _, _⟩ := hC.c3
      go_wp2_with fail
      refine (T.out _).mono ?_
      rintro e w4 ⟨rfl, hf4⟩
      have hA := c3' hA hf4
      have hB := c3' hB hf4
      have hC := c3' hC hf4
      have g4 := g3.trans hf4
      clear hf4 g3 p0 p1 p2 q0 q1 q2 r0 r1 r2
      obtain ⟨p0, p1, p2, _, _, _⟩ := hA.c3
      obtain ⟨q0, q1, q2, _, _, _⟩ := hB.c3
      obtain ⟨r0, r1, r2, _, _, _⟩ := hC.c3
      have hX := btw_paths cx ax bx
      have hY := btw_paths cy ay bv
      have hYY := Lib.hid hY
      clear hY
      rcases hX with ⟨eX, ⟨x1, x2⟩ | ⟨x1, x2, x3⟩ | ⟨x1, x2⟩⟩ | ⟨eX, ⟨x1, x2, x3⟩ | ⟨x1, x2⟩⟩
      all_goals
        have EX := Lib.hid eX
        clear eX
        go_wp2_with fail
      all_goals
        rcases hYY.out with ⟨eY, ⟨y1, y2⟩ | ⟨y1, y2, y3⟩ | ⟨y1, y2⟩⟩ | ⟨eY, ⟨y1, y2, y3⟩ | ⟨y1, y2⟩⟩
        all_goals
          rw [EX.out, eY]
          clear eY
          exact bodyPost_ret (v := .bool _) (by simp [results, Try.results58, go_sem] <;> omega) rfl ⟨rfl, by (repeat' (with_reducible first | exact g4 | refine Fr.setCell ?_ (fun hlt => absurd hlt (by dsimp only; omega)) _ | refine Fr.alloc ?_ _ | refine Fr.drewN ?_ _ | refine Fr.drew ?_))⟩
    · rw [bz_turn hz]
      simp only [Bool.and_eq_true] at hl
      obtain ⟨⟨h1, h2⟩, h3⟩ := hl
      simp only [h1, h2, h3] at kA kB kC
      clear h1 h2 h3
      generalize tz ax ay bx bv cx cy = z at *
      have hz1 : (z == 0) = false := by simpa using hz
      have hz2 : (z != 0) = true := by simpa using hz
      clear hz
      have A := Lib.hid kA
      have B := Lib.hid kB
      have C := Lib.hid kC
      have T := Lib.hid kT
      clear kA kB kC kT
      go_enter Try.func58, Try.ntmps58
      go_wp2_with fail
      refine (A.out _).mono ?_
      rintro e w1 ⟨rfl, hf1⟩
      have hA : Bk w1 w.heap.size 34 #[.int .i64 ai, .int .i64 ax, .int .i64 ay] := c3' (by (repeat' (first | ((with_reducible refine new' ?_); simp; done) | with_reducible refine Bk.alloc ?_ _ | with_reducible refine Bk.far ?_ (by dsimp only; omega) _ | with_reducible refine Bk.drewN ?_ _ | with_reducible refine Bk.drew ?_))) hf1
      have hB : Bk w1 (w.heap.size + 1) 34 #[.int .i64 bi, .int .i64 bx, .int .i64 bv] := c3' (by (repeat' (first | ((with_reducible refine new' ?_); simp; done) | with_reducible refine Bk.alloc ?_ _ | with_reducible refine Bk.far ?_ (by dsimp only; omega) _ | with_reducible refine Bk.drewN ?_ _ | with_reducible refine Bk.drew ?_))) hf1
      have hC : Bk w1 (w.heap.size + 1 + 1) 34 #[.int .i64 ci, .int .i64 cx, .int .i64 cy] := c3' (by (repeat' (first | ((with_reducible refine new' ?_); simp; done) | with_reducible refine Bk.alloc ?_ _ | with_reducible refine Bk.far ?_ (by dsimp only; omega) _ | with_reducible refine Bk.drewN ?_ _ | with_reducible refine Bk.drew ?_))) hf1
      have g1 : Fr Nil w w1 := Fr.trans (by (repeat' (with_reducible first | refine Fr.setCell ?_ (fun hlt => absurd hlt (by dsimp only; omega)) _ | refine Fr.alloc ?_ _ | refine Fr.drewN ?_ _ | refine Fr.drew ?_ | exact Fr.refl _ _))) hf1
      clear hf1
      obtain ⟨p0, p1, p2, _, _, _⟩ := hA.c3
      obtain ⟨q0, q1, q2, _, _, _⟩ := hB.c3
      obtain ⟨r0, r1, r2, _, _, _⟩ := hC.c3
      go_wp2_with fail
      first
        | exact bodyPost_ret (v := .bool false) (by simp [results, Try.results58, go_sem] <;> omega) rfl ⟨rfl, by (repeat' (with_reducible first | exact g1 | refine Fr.setCell ?_ (fun hlt => absurd hlt (by dsimp only; omega)) _ | refine Fr.alloc ?_ _ | refine Fr.drewN ?_ _ | refine Fr.drew ?_))⟩
        | (refine (B.out _).mono ?_
           rintro e w2 ⟨rfl, hf2⟩
           have hA := c3' hA hf2
           have hB := c3' hB hf2
           have hC := c3' hC hf2
           have g2 := g1.trans hf2
           clear hf2 g1 p0 p1 p2 q0 q1 q2 r0 r1 r2
           obtain ⟨p0, p1, p2, _, _, _⟩ := hA.c3
           obtain ⟨q0, q1, q2, _, _, _⟩ := hB.c3
           obtain ⟨r0, r1, r2, _, _, _⟩ := hC.c3
           go_wp2_with fail
           first
             | exact bodyPost_ret (v := .bool false) (by simp [results, Try.results58, go_sem] <;> omega) rfl ⟨rfl, by (repeat' (with_reducible first | exact g2 | refine Fr.setCell ?_ (fun hlt => absurd hlt (by dsimp only; omega)) _ | refine Fr.alloc ?_ _ | refine Fr.drewN ?_ _ | refine Fr.drew ?_))⟩
             | (refine (C.out _).mono ?_
                rintro e w3 ⟨rfl, hf3⟩
                have hA := c3' hA hf3
                have hB := c3' hB hf3
                have hC := c3' hC hf3
                have g3 := g2.trans hf3
                clear hf3 g2 p0 p1 p2 q0 q1 q2 r0 r1 r2
                obtain ⟨p0, p1, p2, _, _, _⟩ := hA.c3
                obtain ⟨q0, q1, q2, _, _, _⟩ := hB.c3
                obtain ⟨r0, r1, r2, _, _, _⟩ := hC.c3
                go_wp2_with fail
                first
                  | exact bodyPost_ret (v := .bool false) (by simp [results, Try.results58, go_sem] <;> omega) rfl ⟨rfl, by (repeat' (with_reducible first | exact g3 | refine Fr.setCell ?_ (fun hlt => absurd hlt (by dsimp only; omega)) _ | refine Fr.alloc ?_ _ | refine Fr.drewN ?_ _ | refine Fr.drew ?_))⟩
                  | (refine (T.out _).mono ?_
                     rintro e w4 ⟨rfl, hf4⟩
                     have hA := c3' hA hf4
                     have hB := c3' hB hf4
                     have hC := c3' hC hf4
                     have g4 := g3.trans hf4
                     clear hf4 g3 p0 p1 p2 q0 q1 q2 r0 r1 r2
                     obtain ⟨p0, p1, p2, _, _, _⟩ := hA.c3
                     obtain ⟨q0, q1, q2, _, _, _⟩ := hB.c3
                     obtain ⟨r0, r1, r2, _, _, _⟩ := hC.c3
                     go_wp2_with fail
                     exact bodyPost_ret (v := .bool false) (by simp [results, Try.results58, go_sem] <;> omega) rfl ⟨rfl, by (repeat' (with_reducible first | exact g4 | refine Fr.setCell ?_ (fun hlt => absurd hlt (by dsimp only; omega)) _ | refine Fr.alloc ?_ _ | refine Fr.drewN ?_ _ | refine Fr.drew ?_))⟩)))
  · have hl := Bool.eq_false_iff.2 hl
    rw [bz_not hl]
    generalize lieB ax ay = ba at *
    generalize lieB bx bv = bb at *
    generalize lieB cx cy = bc at *
    have A := Lib.hid kA
    have B := Lib.hid kB
    have C := Lib.hid kC
    clear kA kB kC kT
    cases ba <;> cases bb <;> cases bc
    case neg.true.true.true => cases hl
    all_goals
      clear hl
      go_enter Try.func58, Try.ntmps58
      go_wp2_with fail
      refine (A.out _).mono ?_
      rintro e w1 ⟨rfl, hf1⟩
      have hA : Bk w1 w.heap.size 34 #[.int .i64 ai, .int .i64 ax, .int .i64 ay] := c3' (by (repeat' (first | ((with_reducible refine new' ?_); simp; done) | with_reducible refine Bk.alloc ?_ _ | with_reducible refine Bk.far ?_ (by dsimp only; omega) _ | with_reducible refine Bk.drewN ?_ _ | with_reducible refine Bk.drew ?_))) hf1
      have hB : Bk w1 (w.heap.size + 1) 34 #[.int .i64 bi, .int .i64 bx, .int .i64 bv] := c3' (by (repeat' (first | ((with_reducible refine new' ?_); simp; done) | with_reducible refine Bk.alloc ?_ _ | with_reducible refine Bk.far ?_ (by dsimp only; omega) _ | with_reducible refine Bk.drewN ?_ _ | with_reducible refine Bk.drew ?_))) hf1
      have hC : Bk w1 (w.heap.size + 1 + 1) 34 #[.int .i64 ci, .int .i64 cx, .int .i64 cy] := c3' (by (repeat' (first | ((with_reducible refine new' ?_); simp; done) | with_reducible refine Bk.alloc ?_ _ | with_reducible refine Bk.far ?_ (by dsimp only; omega) _ | with_reducible refine Bk.drewN ?_ _ | with_reducible refine Bk.drew ?_))) hf1
      have g1 : Fr Nil w w1 := Fr.trans (by (repeat' (with_reducible first | refine Fr.setCell ?_ (fun hlt => absurd hlt (by dsimp only; omega)) _ | refine Fr.alloc ?_ _ | refine Fr.drewN ?_ _ | refine Fr.drew ?_ | exact Fr.refl _ _))) hf1
      clear hf1
      obtain ⟨p0, p1, p2, _, _, _⟩ := hA.c3
      obtain ⟨q0, q1, q2, _, _, _⟩ := hB.c3
      obtain ⟨r0, r1, r2, _, _, _⟩ := hC.c3
      go_wp2_with fail
      first
        | exact bodyPost_ret (v := .bool false) (by simp [results, Try.results58, go_sem] <;> omega) rfl ⟨rfl, by (repeat' (with_reducible first | exact g1 | refine Fr.setCell ?_ (fun hlt => absurd hlt (by dsimp only; omega)) _ | refine Fr.alloc ?_ _ | refine Fr.drewN ?_ _ | refine Fr.drew ?_))⟩
        | (refine (B.out _).mono ?_
           rintro e w2 ⟨rfl, hf2⟩
           have hA := c3' hA hf2
           have hB := c3' hB hf2
           have hC := c3' hC hf2
           have g2 := g1.trans hf2
           clear hf2 g1 p0 p1 p2 q0 q1 q2 r0 r1 r2
           obtain ⟨p0, p1, p2, _, _, _⟩ := hA.c3
           obtain ⟨q0, q1, q2, _, _, _⟩ := hB.c3
           obtain ⟨r0, r1, r2, _, _, _⟩ := hC.c3
           go_wp2_with fail
           first
             | exact bodyPost_ret (v := .bool false) (by simp [results, Try.results58, go_sem] <;> omega) rfl ⟨rfl, by (repeat' (with_reducible first | exact g2 | refine Fr.setCell ?_ (fun hlt => absurd hlt (by dsimp only; omega)) _ | refine Fr.alloc ?_ _ | refine Fr.drewN ?_ _ | refine Fr.drew ?_))⟩
             | (refine (C.out _).mono ?_
                rintro e w3 ⟨rfl, hf3⟩
                have hA := c3' hA hf3
                have hB := c3' hB hf3
                have hC := c3' hC hf3
                have g3 := g2.trans hf3
                clear hf3 g2 p0 p1 p2 q0 q1 q2 r0 r1 r2
                obtain ⟨p0, p1, p2, _, _, _⟩ := hA.c3
                obtain ⟨q0, q1, q2, _, _, _⟩ := hB.c3
                obtain ⟨r0, r1, r2, _, _, _⟩ := hC.c3
                go_wp2_with fail
                exact bodyPost_ret (v := .bool false) (by simp [results, Try.results58, go_sem] <;> omega) rfl ⟨rfl, by (repeat' (with_reducible first | exact g3 | refine Fr.setCell ?_ (fun hlt => absurd hlt (by dsimp only; omega)) _ | refine Fr.alloc ?_ _ | refine Fr.drewN ?_ _ | refine Fr.drew ?_))⟩))

end Go.Proofs.Ytalbaopfdejooaa.KernD
