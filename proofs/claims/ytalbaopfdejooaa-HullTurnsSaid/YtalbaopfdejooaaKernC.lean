/- Chapter 3: the walks of cross, turn, Between, of both packages. -/
import Derived.Test.YtalbaopfdejooaaKernB
import Derived.Test.YtalbaopfdejooaaWideR
namespace Go.Proofs.Ytalbaopfdejooaa.KernC
open Go.RowKit Base WideA WideB WideE WideF KernA KernB Quiet
set_option linter.unusedVariables false
set_option linter.unusedSimpArgs false

theorem told_in {n : Int} (h : -170141183460469231731687303715884105728 ≤ n ∧ n < 170141183460469231731687303715884105728) : told n = .tuple #[.agg #[.int .i64 (n / 18446744073709551616), .int .u64 (n % 18446744073709551616)], .bool true] := if_pos h

set_option maxHeartbeats 2000000 in
theorem cross_any (a b c d : Int) (ha : -2199023255552 ≤ a ∧ a ≤ 2199023255552) (hb : -2199023255552 ≤ b ∧ b ≤ 2199023255552) (hc : -2199023255552 ≤ c ∧ c ≤ 2199023255552) (hd : -2199023255552 ≤ d ∧ d ≤ 2199023255552) (w : World) :
    Calls Try.prog 69 #[.int .i64 a, .int .i64 b, .int .i64 c, .int .i64 d] w fun e w' => e = .returned (.agg #[.int .i64 ((a * b - c * d) / 18446744073709551616), .int .u64 ((a * b - c * d) % 18446744073709551616)]) ∧ Fr Nil w w' := by
  have m1 := KernA.mul_bd ha hb
  have m2 := KernA.mul_bd hc hd
  have kP := fun W => WideQ.Mul_any a b (by omega) (by omega) W
  have kQ := fun W => WideQ.Mul_any c d (by omega) (by omega) W
  have kS := fun W => WideI.Sub_any (a * b / 18446744073709551616) (a * b % 18446744073709551616) (c * d / 18446744073709551616) (c * d % 18446744073709551616) (by omega) (by omega) (by omega) (by omega) W
  rw [show (a * b / 18446744073709551616 * 18446744073709551616 + a * b % 18446744073709551616) - (c * d / 18446744073709551616 * 18446744073709551616 + c * d % 18446744073709551616) = a * b - c * d by omega, told_in (by omega)] at kS
  generalize (a * b - c * d) / 18446744073709551616 = nh at *
  generalize (a * b - c * d) % 18446744073709551616 = nl at *
  generalize a * b / 18446744073709551616 = ph at *
  generalize a * b % 18446744073709551616 = pl at *
  generalize c * d / 18446744073709551616 = qh at *
  generalize c * d % 18446744073709551616 = ql at *
  have P := Lib.hid kP
  have Q := Lib.hid kQ
  have S := Lib.hid kS
  clear kP kQ kS m1 m2 ha hb hc hd
  go_enter Try.func69, Try.ntmps69
  go_wp2_with fail
  refine (P.out _).mono ?_
  rintro e w1 ⟨rfl, hf1⟩
  go_wp2_with fail
  refine (Q.out _).mono ?_
  rintro e w2 ⟨rfl, hf2⟩
  go_wp2_with fail
  refine (S.out _).mono ?_
  rintro e w3 ⟨rfl, hf3⟩
  have g3 := (hf1.trans hf2).trans hf3
  clear hf1 hf2 hf3
  have hl : w.heap.size < w3.heap.size := by have := g3.size; simp at this; omega
  have hC : Bk w3 w.heap.size 56 #[.int .i64 0, .int .u64 0] := Bk.fr (S := Nil) (by (repeat' (first | ((with_reducible refine new' ?_); simp; done) | with_reducible refine Bk.alloc ?_ _ | with_reducible refine Bk.far ?_ (by dsimp only; omega) _ | with_reducible refine Bk.drewN ?_ _ | with_reducible refine Bk.drew ?_))) g3 (fun s => s)
  obtain ⟨k4, k5, f4, f5⟩ := hC.c2
  go_wp2_with fail
  refine bodyPost_ret (v := .agg #[.int .i64 nh, .int .u64 nl]) (by simp [results, Try.results69, go_sem, k4, k5, hl, Nat.ne_of_lt hl]) rfl ⟨rfl, ?_⟩
  have hh : Fr Nil w w3 := Fr.trans (by (repeat' (with_reducible first | refine Fr.setCell ?_ (fun hlt => absurd hlt (by dsimp only; omega)) _ | refine Fr.alloc ?_ _ | refine Fr.drewN ?_ _ | refine Fr.drew ?_ | exact Fr.refl _ _))) g3
  (repeat' (with_reducible first | exact hh | refine Fr.setCell ?_ (fun hlt => absurd hlt (by dsimp only; omega)) _ | refine Fr.alloc ?_ _ | refine Fr.drewN ?_ _ | refine Fr.drew ?_))

set_option maxHeartbeats 4000000 in
theorem rcross_any (a b c d : Int) (ha : -2199023255552 ≤ a ∧ a ≤ 2199023255552) (hb : -2199023255552 ≤ b ∧ b ≤ 2199023255552) (hc : -2199023255552 ≤ c ∧ c ≤ 2199023255552) (hd : -2199023255552 ≤ d ∧ d ≤ 2199023255552) (w : World) :
    Calls Try.prog 27 #[.int .i64 a, .int .i64 b, .int .i64 c, .int .i64 d] w fun e w' => e = .returned (.agg (dcells (a * b - c * d))) ∧ Fr Nil w w' := by
  have kA := fun W => WideC.long_any a W (by omega) (by omega)
  have kB := fun W => WideC.long_any b W (by omega) (by omega)
  have kC := fun W => WideC.long_any c W (by omega) (by omega)
  have kD := fun W => WideC.long_any d W (by omega) (by omega)
  have kP := fun W => WideR.mul_any a b W
  have kQ := fun W => WideR.mul_any c d W
  have kN := fun W => WideD.neg_any (c * d) W
  have kS := fun W => WideD.add_any (a * b) (-(c * d)) W
  rw [show a * b + -(c * d) = a * b - c * d by omega] at kS
  generalize a * b - c * d = n at *
  generalize dcells (-(c * d)) = dn at *
  generalize dcells (a * b) = dp at *
  generalize dcells (c * d) = dq at *
  generalize dcells a = da at *
  generalize dcells b = db at *
  generalize dcells c = dc at *
  generalize dcells d = dd at *
  have A := Lib.hid kA
  have B := Lib.hid kB
  have C := Lib.hid kC
  have D := Lib.hid kD
  have P := Lib.hid kP
  have Q := Lib.hid kQ
  have N := Lib.hid kN
  have S := Lib.hid kS
  clear kA kB kC kD kP kQ kN kS ha hb hc hd
  go_enter Try.func27, Try.ntmps27
  go_wp2_with fail
  refine (A.out _).mono ?_
  rintro e w1 ⟨rfl, hf1⟩
  go_wp2_with fail
  refine (B.out _).mono ?_
  rintro e w2 ⟨rfl, hf2⟩
  go_wp2_with fail
  refine (P.out _).mono ?_
  rintro e w3 ⟨rfl, hf3⟩
  go_wp2_with fail
  refine (C.out _).mono ?_
  rintro e w4 ⟨rfl, hf4⟩
  go_wp2_with fail
  refine (D.out _).mono ?_
  rintro e w5 ⟨rfl, hf5⟩
  go_wp2_with fail
  refine (Q.out _).mono ?_
  rintro e w6 ⟨rfl, hf6⟩
  go_wp2_with fail
  refine (N.out _).mono ?_
  rintro e w7 ⟨rfl, hf7⟩
  go_wp2_with fail
  refine (S.out _).mono ?_
  rintro e w8 ⟨rfl, hf8⟩
  have g := ((((((hf1.trans hf2).trans hf3).trans hf4).trans hf5).trans hf6).trans hf7).trans hf8
  clear hf1 hf2 hf3 hf4 hf5 hf6 hf7 hf8
  have hl : w.heap.size < w8.heap.size := by have := g.size; simp at this; omega
  have hB : Bk w8 w.heap.size 41 #[.int .u64 0, .int .u64 0, .int .u64 0, .int .u64 0, .int .u64 0, .int .u64 0, .int .u64 0, .int .u64 0, .int .u64 0] := Bk.fr (S := Nil) (by (repeat' (first | ((with_reducible refine new' ?_); simp; done) | with_reducible refine Bk.alloc ?_ _ | with_reducible refine Bk.far ?_ (by dsimp only; omega) _ | with_reducible refine Bk.drewN ?_ _ | with_reducible refine Bk.drew ?_))) g (fun s => s)
  obtain ⟨k0, k1, k2, k3, k4, k5, k6, k7, k8, f0, f1, f2, f3, f4, f5, f6, f7, f8⟩ := WideC.c9 hB
  unfold dcells
  go_wp2_with fail
  refine bodyPost_ret (v := .agg (dcells n)) ?_ rfl ⟨rfl, ?_⟩
  · unfold dcells
    simp [results, Try.results27, go_sem, k0, k1, k2, k3, k4, k5, k6, k7, k8]
  · have hh : Fr Nil w w8 := Fr.trans (by (repeat' (with_reducible first | refine Fr.setCell ?_ (fun hlt => absurd hlt (by dsimp only; omega)) _ | refine Fr.alloc ?_ _ | refine Fr.drewN ?_ _ | refine Fr.drew ?_ | exact Fr.refl _ _))) g
    (repeat' (with_reducible first | exact hh | refine Fr.setCell ?_ (fun hlt => absurd hlt (by dsimp only; omega)) _ | refine Fr.alloc ?_ _ | refine Fr.drewN ?_ _ | refine Fr.drew ?_))

theorem tz_no {ax ay bx bv cx cy : Int} (h : (lieB ax ay && lieB bx bv && lieB cx cy) = false) : tz ax ay bx bv cx cy = 0 := by
  unfold tz
  rw [h]; rfl
theorem tz_yes {ax ay bx bv cx cy : Int} (h : (lieB ax ay && lieB bx bv && lieB cx cy) = true) : tz ax ay bx bv cx cy = cmpI (crz ax ay bx bv cx cy) 0 := by
  unfold tz
  rw [h]; rfl
theorem c3' {w w' : World} {g : Nat} {t : TypeId} {a b c : Value} (h : Bk w g t #[a, b, c]) (hf : Fr Nil w w') : Bk w' g t #[a, b, c] := h.fr hf id

set_option maxHeartbeats 8000000 in
theorem turn_any (ai ax ay bi bx bv ci cx cy : Int) (w : World) : Calls Try.prog 63 #[.agg #[.int .i64 ai, .int .i64 ax, .int .i64 ay], .agg #[.int .i64 bi, .int .i64 bx, .int .i64 bv], .agg #[.int .i64 ci, .int .i64 cx, .int .i64 cy]] w fun e w' => e = .returned (.int .i64 (tz ax ay bx bv cx cy)) ∧ Fr Nil w w' := by
  have kA := fun W => lies_any ai ax ay W
  have kB := fun W => lies_any bi bx bv W
  have kC := fun W => lies_any ci cx cy W
  by_cases hl : (lieB ax ay && lieB bx bv && lieB cx cy) = true
  · rw [tz_yes hl]
    simp only [Bool.and_eq_true] at hl
    obtain ⟨⟨h1, h2⟩, h3⟩ := hl
    simp only [h1, h2, h3] at kA kB kC
    obtain ⟨⟨a0, a1⟩, a2, a3⟩ := lieB_iff.1 h1
    obtain ⟨⟨b0, b1⟩, b2, b3⟩ := lieB_iff.1 h2
    obtain ⟨⟨c0, c1⟩, c2, c3⟩ := lieB_iff.1 h3
    have kX := fun W => cross_any (bx - ax) (cy - ay) (bv - ay) (cx - ax) (by omega) (by omega) (by omega) (by omega) W
    have m1 := KernA.mul_bd (a := bx - ax) (b := cy - ay) (by omega) (by omega)
    have m2 := KernA.mul_bd (a := bv - ay) (b := cx - ax) (by omega) (by omega)
    have kG := fun W => WideP.Sign_any (crz ax ay bx bv cx cy / 18446744073709551616) (crz ax ay bx bv cx cy % 18446744073709551616) (by unfold crz; omega) (by omega) W
    rw [show crz ax ay bx bv cx cy / 18446744073709551616 * 18446744073709551616 + crz ax ay bx bv cx cy % 18446744073709551616 = crz ax ay bx bv cx cy by omega] at kG
    change ∀ W, Calls _ _ _ W fun e w' => e = .returned (.agg #[.int .i64 (crz ax ay bx bv cx cy / 18446744073709551616), .int .u64 (crz ax ay bx bv cx cy % 18446744073709551616)]) ∧ Fr Nil W w' at kX
    generalize cmpI (crz ax ay bx bv cx cy) 0 = z at *
    generalize crz ax ay bx bv cx cy / 18446744073709551616 = nh at *
    generalize crz ax ay bx bv cx cy % 18446744073709551616 = nl at *
    have X := Lib.hid kX
    have G := Lib.hid kG
    clear kX kG m1 m2
    have A := Lib.hid kA
    have B := Lib.hid kB
    have C := Lib.hid kC
    clear kA kB kC h1 h2 h3
    go_enter Try.func63, Try.ntmps63
    go_wp2_with fail
    refine (A.out _).mono ?_
    rintro e w1 ⟨rfl, hf1⟩
    have hA : Bk w1 w.heap.size 34 #[.int .i64 ai, .int .i64 ax, .int .i64 ay] := c3' (by (repeat' (first | ((with_reducible refine new' ?_); simp; done) | with_reducible refine Bk.alloc ?_ _ | with_reducible refine Bk.far ?_ (by dsimp only; omega) _ | with_reducible refine Bk.drewN ?_ _ | with_reducible refine Bk.drew ?_))) hf1
    have hB : Bk w1 (w.heap.size + 1) 34 #[.int .i64 bi, .int .i64 bx, .int .i64 bv] := c3' (by (repeat' (first | ((with_reducible refine new' ?_); simp; done) | with_reducible refine Bk.alloc ?_ _ | with_reducible refine Bk.far ?_ (by dsimp only; omega) _ | with_reducible refine Bk.drewN ?_ _ | with_reducible refine Bk.drew ?_))) hf1
    have hC : Bk w1 (w.heap.size + 1 + 1) 34 #[.int .i64 ci, .int .i64 cx, .int .i64 cy] := c3' (by (repeat' (first | ((with_reducible refine new' ?_); simp; done) | with_reducible refine Bk.alloc ?_ _ | with_reducible refine Bk.far ?_ (by dsimp only; omega) _ | with_reducible refine Bk.drewN ?_ _ | with_reducible refine Bk.drew ?_))) hf1
    have g1 : Fr Nil w w1 := Fr.trans (by (repeat' (with_reducible first | refine Fr.setCell ?_ (fun hlt => absurd hlt (by dsimp only; omega)) _ | refine Fr.alloc ?_ _ | refine Fr.drewN ?_ _ | refine Fr.drew ?_ | exact Fr.refl _ _))) hf1
    obtain ⟨q0, q1, q2, _, _, _⟩ := hB.c3
    clear hf1
    go_wp2_with fail
    refine (B.out _).mono ?_
    rintro e w2 ⟨rfl, hf2⟩
    have hA := c3' hA hf2
    have hB := c3' hB hf2
    have hC := c3' hC hf2
    have g2 := g1.trans hf2
    clear hf2 g1 q0 q1 q2
    obtain ⟨q0, q1, q2, _, _, _⟩ := hC.c3
    go_wp2_with fail
    refine (C.out _).mono ?_
    rintro e w3 ⟨rfl, hf3⟩
    have hA := c3' hA hf3
    have hB := c3' hB hf3
    have hC := c3' hC hf3
    have g3 := g2.trans hf3
    clear hf3 g2 q0 q1 q2
    obtain ⟨p0, p1, p2, _, _, _⟩ := hA.c3
    obtain ⟨q0, q1, q2, _, _, _⟩ := hB.c3
    obtain ⟨r0, r1, r2, _, _, _⟩ := hC.c3
    go_wp2_with fail
    refine (X.out _).mono ?_
    rintro e w4 ⟨rfl, hf4⟩
    have g4 := g3.trans hf4
    clear hf4 g3 p0 p1 p2 q0 q1 q2 r0 r1 r2
    go_wp2_with fail
    refine (G.out _).mono ?_
    rintro e w5 ⟨rfl, hf5⟩
    have g5 := g4.trans hf5
    clear hf5 g4
    go_wp2_with fail
    exact bodyPost_ret (v := .int .i64 z) (by simp [results, Try.results63, go_sem] <;> omega) rfl ⟨rfl, by (repeat' (with_reducible first | exact g5 | refine Fr.setCell ?_ (fun hlt => absurd hlt (by dsimp only; omega)) _ | refine Fr.alloc ?_ _ | refine Fr.drewN ?_ _ | refine Fr.drew ?_))⟩
  · have hl := Bool.eq_false_iff.2 hl
    rw [tz_no hl]
    generalize lieB ax ay = ba at *
    generalize lieB bx bv = bb at *
    generalize lieB cx cy = bc at *
    have A := Lib.hid kA
    have B := Lib.hid kB
    have C := Lib.hid kC
    clear kA kB kC
    cases ba <;> cases bb <;> cases bc
    case neg.true.true.true => cases hl
    all_goals
      clear hl
      go_enter Try.func63, Try.ntmps63
      go_wp2_with fail
      refine (A.out _).mono ?_
      rintro e w1 ⟨rfl, hf1⟩
      have hB : Bk w1 (w.heap.size + 1) 34 #[.int .i64 bi, .int .i64 bx, .int .i64 bv] := c3' (by (repeat' (first | ((with_reducible refine new' ?_); simp; done) | with_reducible refine Bk.alloc ?_ _ | with_reducible refine Bk.far ?_ (by dsimp only; omega) _ | with_reducible refine Bk.drewN ?_ _ | with_reducible refine Bk.drew ?_))) hf1
      have hC : Bk w1 (w.heap.size + 1 + 1) 34 #[.int .i64 ci, .int .i64 cx, .int .i64 cy] := c3' (by (repeat' (first | ((with_reducible refine new' ?_); simp; done) | with_reducible refine Bk.alloc ?_ _ | with_reducible refine Bk.far ?_ (by dsimp only; omega) _ | with_reducible refine Bk.drewN ?_ _ | with_reducible refine Bk.drew ?_))) hf1
      have g1 : Fr Nil w w1 := Fr.trans (by (repeat' (with_reducible first | refine Fr.setCell ?_ (fun hlt => absurd hlt (by dsimp only; omega)) _ | refine Fr.alloc ?_ _ | refine Fr.drewN ?_ _ | refine Fr.drew ?_ | exact Fr.refl _ _))) hf1
      obtain ⟨q0, q1, q2, _, _, _⟩ := hB.c3
      clear hf1
      go_wp2_with fail
      first
        | exact bodyPost_ret (v := .int .i64 0) (by simp [results, Try.results63, go_sem] <;> omega) rfl ⟨rfl, by (repeat' (with_reducible first | exact g1 | refine Fr.setCell ?_ (fun hlt => absurd hlt (by dsimp only; omega)) _ | refine Fr.alloc ?_ _ | refine Fr.drewN ?_ _ | refine Fr.drew ?_))⟩
        | (refine (B.out _).mono ?_
           rintro e w2 ⟨rfl, hf2⟩
           have g2 := g1.trans hf2
           have hC := c3' hC hf2
           obtain ⟨q0, q1, q2, _, _, _⟩ := hC.c3
           clear hf2 g1
           go_wp2_with fail
           first
             | exact bodyPost_ret (v := .int .i64 0) (by simp [results, Try.results63, go_sem] <;> omega) rfl ⟨rfl, by (repeat' (with_reducible first | exact g2 | refine Fr.setCell ?_ (fun hlt => absurd hlt (by dsimp only; omega)) _ | refine Fr.alloc ?_ _ | refine Fr.drewN ?_ _ | refine Fr.drew ?_))⟩
             | (refine (C.out _).mono ?_
                rintro e w3 ⟨rfl, hf3⟩
                have g3 := g2.trans hf3
                clear hf3 g2
                go_wp2_with fail
                exact bodyPost_ret (v := .int .i64 0) (by simp [results, Try.results63, go_sem] <;> omega) rfl ⟨rfl, by (repeat' (with_reducible first | exact g3 | refine Fr.setCell ?_ (fun hlt => absurd hlt (by dsimp only; omega)) _ | refine Fr.alloc ?_ _ | refine Fr.drewN ?_ _ | refine Fr.drew ?_))⟩))

set_option maxHeartbeats 8000000 in
theorem rturn_any (ai ax ay bi bx bv ci cx cy : Int) (w : World) : Calls Try.prog 24 #[.agg #[.int .i64 ai, .int .i64 ax, .int .i64 ay], .agg #[.int .i64 bi, .int .i64 bx, .int .i64 bv], .agg #[.int .i64 ci, .int .i64 cx, .int .i64 cy]] w fun e w' => e = .returned (.int .i64 (tz ax ay bx bv cx cy)) ∧ Fr Nil w w' := by
  have kA := fun W => rlies_any ai ax ay W
  have kB := fun W => rlies_any bi bx bv W
  have kC := fun W => rlies_any ci cx cy W
  by_cases hl : (lieB ax ay && lieB bx bv && lieB cx cy) = true
  · rw [tz_yes hl]
    simp only [Bool.and_eq_true] at hl
    obtain ⟨⟨h1, h2⟩, h3⟩ := hl
    simp only [h1, h2, h3] at kA kB kC
    obtain ⟨⟨a0, a1⟩, a2, a3⟩ := lieB_iff.1 h1
    obtain ⟨⟨b0, b1⟩, b2, b3⟩ := lieB_iff.1 h2
    obtain ⟨⟨c0, c1⟩, c2, c3⟩ := lieB_iff.1 h3
    have kX := fun W => rcross_any (bx - ax) (cy - ay) (bv - ay) (cx - ax) (by omega) (by omega) (by omega) (by omega) W
    have m1 := KernA.mul_bd (a := bx - ax) (b := cy - ay) (by omega) (by omega)
    have m2 := KernA.mul_bd (a := bv - ay) (b := cx - ax) (by omega) (by omega)
    have kL := fun W => WideC.long_any 0 W (by omega) (by omega)
    have kG := fun W => cmp_any (crz ax ay bx bv cx cy) 0 W (by unfold crz; omega) (by unfold crz; omega) (by omega) (by omega)
    change ∀ W, Calls _ _ _ W fun e w' => e = .returned (.agg (dcells (crz ax ay bx bv cx cy))) ∧ Fr Nil W w' at kX
    generalize cmpI (crz ax ay bx bv cx cy) 0 = z at *
    generalize dcells (crz ax ay bx bv cx cy) = dn at *
    generalize dcells 0 = d0 at *
    have X := Lib.hid kX
    have L := Lib.hid kL
    have G := Lib.hid kG
    clear kX kG kL m1 m2
    have A := Lib.hid kA
    have B := Lib.hid kB
    have C := Lib.hid kC
    clear kA kB kC h1 h2 h3
    go_enter Try.func24, Try.ntmps24
    go_wp2_with fail
    refine (A.out _).mono ?_
    rintro e w1 ⟨rfl, hf1⟩
    have hA : Bk w1 w.heap.size 34 #[.int .i64 ai, .int .i64 ax, .int .i64 ay] := c3' (by (repeat' (first | ((with_reducible refine new' ?_); simp; done) | with_reducible refine Bk.alloc ?_ _ | with_reducible refine Bk.far ?_ (by dsimp only; omega) _ | with_reducible refine Bk.drewN ?_ _ | with_reducible refine Bk.drew ?_))) hf1
    have hB : Bk w1 (w.heap.size + 1) 34 #[.int .i64 bi, .int .i64 bx, .int .i64 bv] := c3' (by (repeat' (first | ((with_reducible refine new' ?_); simp; done) | with_reducible refine Bk.alloc ?_ _ | with_reducible refine Bk.far ?_ (by dsimp only; omega) _ | with_reducible refine Bk.drewN ?_ _ | with_reducible refine Bk.drew ?_))) hf1
    have hC : Bk w1 (w.heap.size + 1 + 1) 34 #[.int .i64 ci, .int .i64 cx, .int .i64 cy] := c3' (by (repeat' (first | ((with_reducible refine new' ?_); simp; done) | with_reducible refine Bk.alloc ?_ _ | with_reducible refine Bk.far ?_ (by dsimp only; omega) _ | with_reducible refine Bk.drewN ?_ _ | with_reducible refine Bk.drew ?_))) hf1
    have g1 : Fr Nil w w1 := Fr.trans (by (repeat' (with_reducible first | refine Fr.setCell ?_ (fun hlt => absurd hlt (by dsimp only; omega)) _ | refine Fr.alloc ?_ _ | refine Fr.drewN ?_ _ | refine Fr.drew ?_ | exact Fr.refl _ _))) hf1
    obtain ⟨q0, q1, q2, _, _, _⟩ := hB.c3
    clear hf1
    go_wp2_with fail
    refine (B.out _).mono ?_
    rintro e w2 ⟨rfl, hf2⟩
    have hA := c3' hA hf2
    have hB := c3' hB hf2
    have hC := c3' hC hf2
    have g2 := g1.trans hf2
    clear hf2 g1 q0 q1 q2
    obtain ⟨q0, q1, q2, _, _, _⟩ := hC.c3
    go_wp2_with fail
    refine (C.out _).mono ?_
    rintro e w3 ⟨rfl, hf3⟩
    have hA := c3' hA hf3
    have hB := c3' hB hf3
    have hC := c3' hC hf3
    have g3 := g2.trans hf3
    clear hf3 g2 q0 q1 q2
    obtain ⟨p0, p1, p2, _, _, _⟩ := hA.c3
    obtain ⟨q0, q1, q2, _, _, _⟩ := hB.c3
    obtain ⟨r0, r1, r2, _, _, _⟩ := hC.c3
    go_wp2_with fail
    refine (X.out _).mono ?_
    rintro e w4 ⟨rfl, hf4⟩
    have g4 := g3.trans hf4
    clear hf4 g3 p0 p1 p2 q0 q1 q2 r0 r1 r2
    go_wp2_with fail
    refine (L.out _).mono ?_
    rintro e w5 ⟨rfl, hf5⟩
    have g5 := g4.trans hf5
    clear hf5 g4
    go_wp2_with fail
    refine (G.out _).mono ?_
    rintro e w6 ⟨rfl, hf6⟩
    have g6 := g5.trans hf6
    clear hf6 g5
    go_wp2_with fail
    exact bodyPost_ret (v := .int .i64 z) (by simp [results, Try.results24, go_sem] <;> omega) rfl ⟨rfl, by (repeat' (with_reducible first | exact g6 | refine Fr.setCell ?_ (fun hlt => absurd hlt (by dsimp only; omega)) _ | refine Fr.alloc ?_ _ | refine Fr.drewN ?_ _ | refine Fr.drew ?_))⟩
  · have hl := Bool.eq_false_iff.2 hl
    rw [tz_no hl]
    generalize lieB ax ay = ba at *
    generalize lieB bx bv = bb at *
    generalize lieB cx cy = bc at *
    have A := Lib.hid kA
    have B := Lib.hid kB
    have C := Lib.hid kC
    clear kA kB kC
    cases ba <;> cases bb <;> cases bc
    case neg.true.true.true => cases hl
    all_goals
      clear hl
      go_enter Try.func24, Try.ntmps24
      go_wp2_with fail
      refine (A.out _).mono ?_
      rintro e w1 ⟨rfl, hf1⟩
      have hB : Bk w1 (w.heap.size + 1) 34 #[.int .i64 bi, .int .i64 bx, .int .i64 bv] := c3' (by (repeat' (first | ((with_reducible refine new' ?_); simp; done) | with_reducible refine Bk.alloc ?_ _ | with_reducible refine Bk.far ?_ (by dsimp only; omega) _ | with_reducible refine Bk.drewN ?_ _ | with_reducible refine Bk.drew ?_))) hf1
      have hC : Bk w1 (w.heap.size + 1 + 1) 34 #[.int .i64 ci, .int .i64 cx, .int .i64 cy] := c3' (by (repeat' (first | ((with_reducible refine new' ?_); simp; done) | with_reducible refine Bk.alloc ?_ _ | with_reducible refine Bk.far ?_ (by dsimp only; omega) _ | with_reducible refine Bk.drewN ?_ _ | with_reducible refine Bk.drew ?_))) hf1
      have g1 : Fr Nil w w1 := Fr.trans (by (repeat' (with_reducible first | refine Fr.setCell ?_ (fun hlt => absurd hlt (by dsimp only; omega)) _ | refine Fr.alloc ?_ _ | refine Fr.drewN ?_ _ | refine Fr.drew ?_ | exact Fr.refl _ _))) hf1
      obtain ⟨q0, q1, q2, _, _, _⟩ := hB.c3
      clear hf1
      go_wp2_with fail
      first
        | exact bodyPost_ret (v := .int .i64 0) (by simp [results, Try.results24, go_sem] <;> omega) rfl ⟨rfl, by (repeat' (with_reducible first | exact g1 | refine Fr.setCell ?_ (fun hlt => absurd hlt (by dsimp only; omega)) _ | refine Fr.alloc ?_ _ | refine Fr.drewN ?_ _ | refine Fr.drew ?_))⟩
        | (refine (B.out _).mono ?_
           rintro e w2 ⟨rfl, hf2⟩
           have g2 := g1.trans hf2
           have hC := c3' hC hf2
           obtain ⟨q0, q1, q2, _, _, _⟩ := hC.c3
           clear hf2 g1
           go_wp2_with fail
           first
             | exact bodyPost_ret (v := .int .i64 0) (by simp [results, Try.results24, go_sem] <;> omega) rfl ⟨rfl, by (repeat' (with_reducible first | exact g2 | refine Fr.setCell ?_ (fun hlt => absurd hlt (by dsimp only; omega)) _ | refine Fr.alloc ?_ _ | refine Fr.drewN ?_ _ | refine Fr.drew ?_))⟩
             | (refine (C.out _).mono ?_
                rintro e w3 ⟨rfl, hf3⟩
                have g3 := g2.trans hf3
                clear hf3 g2
                go_wp2_with fail
                exact bodyPost_ret (v := .int .i64 0) (by simp [results, Try.results24, go_sem] <;> omega) rfl ⟨rfl, by (repeat' (with_reducible first | exact g3 | refine Fr.setCell ?_ (fun hlt => absurd hlt (by dsimp only; omega)) _ | refine Fr.alloc ?_ _ | refine Fr.drewN ?_ _ | refine Fr.drew ?_))⟩))

set_option maxHeartbeats 1000000 in
theorem Turn_any (ai ax ay bi bx bv ci cx cy : Int) (w : World) : Calls Try.prog 45 #[.agg #[.int .i64 ai, .int .i64 ax, .int .i64 ay], .agg #[.int .i64 bi, .int .i64 bx, .int .i64 bv], .agg #[.int .i64 ci, .int .i64 cx, .int .i64 cy]] w fun e w' => e = .returned (.int .i64 (tz ax ay bx bv cx cy)) ∧ Fr Nil w w' := by
  have kT := fun W => turn_any ai ax ay bi bx bv ci cx cy W
  generalize tz ax ay bx bv cx cy = z at *
  have K := Lib.hid kT
  clear kT
  go_enter Try.func45, Try.ntmps45
  go_wp2_with fail
  refine (K.out _).mono ?_
  rintro e w1 ⟨rfl, hf1⟩
  have g1 : Fr Nil w w1 := Fr.trans (by (repeat' (with_reducible first | refine Fr.setCell ?_ (fun hlt => absurd hlt (by dsimp only; omega)) _ | refine Fr.alloc ?_ _ | refine Fr.drewN ?_ _ | refine Fr.drew ?_ | exact Fr.refl _ _))) hf1
  clear hf1
  go_wp2_with fail
  exact bodyPost_ret (v := .int .i64 z) (by simp [results, Try.results45, go_sem] <;> omega) rfl ⟨rfl, by (repeat' (with_reducible first | exact g1 | refine Fr.setCell ?_ (fun hlt => absurd hlt (by dsimp only; omega)) _ | refine Fr.alloc ?_ _ | refine Fr.drewN ?_ _ | refine Fr.drew ?_))⟩

end Go.Proofs.Ytalbaopfdejooaa.KernC
