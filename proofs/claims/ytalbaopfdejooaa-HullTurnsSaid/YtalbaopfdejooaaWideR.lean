/- Chapter 2: the walk of the reference's Mul. -/
import Derived.Test.YtalbaopfdejooaaWideQ
namespace Go.Proofs.Ytalbaopfdejooaa.WideR
open Go.RowKit Base WideA WideB WideC
set_option linter.unusedVariables false
set_option linter.unusedSimpArgs false

theorem mstep0 (P a n : Int) (i : Nat) : (dg P i + a * dg n 0) % 65536 = dg (P + a * n * pw i) i ∧ (dg P i + a * dg n 0) / 65536 = mcar P a n i 1 := by
  have h := mcar_step P a n i 0
  rw [mcar_zero, Int.add_zero] at h
  exact h

theorem pbd (a n : Int) (k : Nat) (h0 : 0 ≤ a) (h1 : a ≤ 65535) : 0 ≤ a * dg n k ∧ a * dg n k ≤ 4294836225 :=
  ⟨Int.mul_nonneg h0 (dg_bd n k).1, Int.le_trans (Int.mul_le_mul h1 (dg_bd n k).2 (dg_bd n k).1 (by omega)) (by omega)⟩

theorem row_law (m n : Int) (j : Nat) : ∃ (a : Int) (p r d C : Nat → Int), a = dg m j ∧ p = dg (WideA.part m n j) ∧ r = dg (WideA.part m n (j + 1)) ∧ d = dg n ∧ C 0 = 0 ∧
    (∀ k, 0 ≤ C k ∧ C k ≤ 65535) ∧ (∀ k, 0 ≤ p k ∧ p k ≤ 65535) ∧ (∀ k, 0 ≤ d k ∧ d k ≤ 65535) ∧ (∀ k, 0 ≤ a * d k ∧ a * d k ≤ 4294836225) ∧ (0 ≤ a ∧ a ≤ 65535) ∧
    (∀ k, (p (j + k) + a * d k + C k) % 65536 = r (j + k) ∧ (p (j + k) + a * d k + C k) / 65536 = C (k + 1)) ∧ ∀ i, i < j → r i = p i := by
  have hm := dg_bd m j
  refine ⟨dg m j, dg (WideA.part m n j), dg (WideA.part m n (j + 1)), dg n, mcar (WideA.part m n j) (dg m j) n j, rfl, rfl, rfl, rfl, mcar_zero _ _ _ _, fun k => mcar_bd _ _ _ _ _ hm.1 hm.2, fun k => dg_bd _ _, fun k => dg_bd _ _, fun k => pbd _ _ _ hm.1 hm.2, hm, fun k => ?_, fun i hi => ?_⟩
  · rw [part_succ]
    exact mcar_step _ _ _ _ _
  · rw [part_succ]
    exact dg_low _ _ _ _ hi

/-- a block that holds what a number's digits are -/
def Dk (w : World) (g : Nat) (n : Int) : Prop := Bk w g 41 (dcells n)

theorem Dk.of {w : World} {g : Nat} {n : Int} (h : Dk w g n) : Bk w g 41 #[.int .u64 (dg n 0), .int .u64 (dg n 1), .int .u64 (dg n 2), .int .u64 (dg n 3), .int .u64 (dg n 4), .int .u64 (dg n 5), .int .u64 (dg n 6), .int .u64 (dg n 7), .int .u64 (dg n 8)] := h

/-- where a row stands: the two numbers, the result's block, the row's digits -/
def At (m n : Int) (w : World) (x0 x1 x2 x3 x4 x5 x6 x7 x8 : Int) (W : World) : Prop :=
  Dk W w.heap.size m ∧ Dk W (w.heap.size + 1) n ∧ Bk W (w.heap.size + 2) 41 #[.int .u64 0, .int .u64 0, .int .u64 0, .int .u64 0, .int .u64 0, .int .u64 0, .int .u64 0, .int .u64 0, .int .u64 0] ∧ Bk W (w.heap.size + 3) 41 #[.int .u64 x0, .int .u64 x1, .int .u64 x2, .int .u64 x3, .int .u64 x4, .int .u64 x5, .int .u64 x6, .int .u64 x7, .int .u64 x8] ∧ Fr Nil w W

theorem At.put {m n : Int} {w W : World} {x0 x1 x2 x3 x4 x5 x6 x7 x8 y0 y1 y2 y3 y4 y5 y6 y7 y8 : Int} (h : At m n w x0 x1 x2 x3 x4 x5 x6 x7 x8 W) (q i : Nat) (v : Int)
    (e : (#[.int .u64 x0, .int .u64 x1, .int .u64 x2, .int .u64 x3, .int .u64 x4, .int .u64 x5, .int .u64 x6, .int .u64 x7, .int .u64 x8] : Array Value).setIfInBounds i (.int .u64 v) = #[.int .u64 y0, .int .u64 y1, .int .u64 y2, .int .u64 y3, .int .u64 y4, .int .u64 y5, .int .u64 y6, .int .u64 y7, .int .u64 y8]) : At m n w y0 y1 y2 y3 y4 y5 y6 y7 y8 ((W.drewN q).setCell ⟨w.heap.size + 3, i, none⟩ (.int .u64 v)) :=
  ⟨Bk.far (Bk.drewN h.1 q) (by dsimp only; omega) _, Bk.far (Bk.drewN h.2.1 q) (by dsimp only; omega) _, Bk.far (Bk.drewN h.2.2.1 q) (by dsimp only; omega) _, e ▸ (h.2.2.2.1.drewN q).put i (.int .u64 v), (h.2.2.2.2.drewN q).setCell (fun hlt => absurd hlt (by dsimp only; omega)) _⟩

/-- the round's invariant -/
def Inv (m n : Int) (w : World) (j : Nat) (wr : World) : Prop :=
  Dk wr w.heap.size m ∧ Dk wr (w.heap.size + 1) n ∧ Bk wr (w.heap.size + 2) 41 #[.int .u64 0, .int .u64 0, .int .u64 0, .int .u64 0, .int .u64 0, .int .u64 0, .int .u64 0, .int .u64 0, .int .u64 0] ∧ Dk wr (w.heap.size + 3) (WideA.part m n j) ∧ Fr Nil w wr

theorem dcells_zero : dcells 0 = #[.int .u64 0, .int .u64 0, .int .u64 0, .int .u64 0, .int .u64 0, .int .u64 0, .int .u64 0, .int .u64 0, .int .u64 0] := by
  unfold dcells
  simp [dg_zero]

set_option maxHeartbeats 20000000 in
theorem mul_any (m n : Int) (w : World) :
    Calls Try.prog 44 #[.agg (dcells m), .agg (dcells n)] w fun e w' => e = .returned (.agg (dcells (m * n))) ∧ Fr Nil w w' := by
  go_enter Try.func44, Try.ntmps44
  go_wp2_with fail
  go_loopw [6] (fun i wr => ∃ j : Nat, j ≤ 9 ∧ i = .int .i64 j ∧ Inv m n w j wr) (fun i _ => 9 - (intOf i).toNat)
  case atStart =>
    refine ⟨0, by omega, rfl, ?_, ?_, ?_, ?_, ?_⟩
    · show Bk _ _ _ _
      (repeat' (first | ((with_reducible refine new' ?_); simp; done) | with_reducible refine Bk.alloc ?_ _ | with_reducible refine Bk.far ?_ (by dsimp only; omega) _ | with_reducible refine Bk.drewN ?_ _ | with_reducible refine Bk.drew ?_))
    · show Bk _ _ _ _
      (repeat' (first | ((with_reducible refine new' ?_); simp; done) | with_reducible refine Bk.alloc ?_ _ | with_reducible refine Bk.far ?_ (by dsimp only; omega) _ | with_reducible refine Bk.drewN ?_ _ | with_reducible refine Bk.drew ?_))
    · (repeat' (first | ((with_reducible refine new' ?_); simp; done) | with_reducible refine Bk.alloc ?_ _ | with_reducible refine Bk.far ?_ (by dsimp only; omega) _ | with_reducible refine Bk.drewN ?_ _ | with_reducible refine Bk.drew ?_))
    · show Bk _ _ _ _
      rw [part_zero, dcells_zero]
      (repeat' (first | ((with_reducible refine new' ?_); simp; done) | with_reducible refine Bk.alloc ?_ _ | with_reducible refine Bk.far ?_ (by dsimp only; omega) _ | with_reducible refine Bk.drewN ?_ _ | with_reducible refine Bk.drew ?_))
    · (repeat' (with_reducible first | refine Fr.setCell ?_ (fun hlt => absurd hlt (by dsimp only; omega)) _ | refine Fr.alloc ?_ _ | refine Fr.drewN ?_ _ | refine Fr.drew ?_ | exact Fr.refl _ _))
  case round =>
    obtain ⟨j, hj, rfl, hA, hB, hR, hC, hfr⟩ := hrel
    have KC := Lib.hid hC
    obtain ⟨a0, a1, a2, a3, a4, a5, a6, a7, a8, _, _, _, _, _, _, _, _, _⟩ := c9 hA.of
    obtain ⟨n0, n1, n2, n3, n4, n5, n6, n7, n8, _, _, _, _, _, _, _, _, _⟩ := c9 hB.of
    obtain ⟨c0, c1, c2, c3, c4, c5, c6, c7, c8, f0, f1, f2, f3, f4, f5, f6, f7, f8⟩ := c9 hC.of
    have hlt := hC.of.lt
    have HA := Lib.hid hA
    have HB := Lib.hid hB
    have HR := Lib.hid hR
    have HC := Lib.hid hC
    have HF := Lib.hid hfr
    clear hA hB hR hC hfr KC
    have hcase : j = 0 ∨ j = 1 ∨ j = 2 ∨ j = 3 ∨ j = 4 ∨ j = 5 ∨ j = 6 ∨ j = 7 ∨ j = 8 ∨ j = 9 := by omega
    rcases hcase with rfl | rfl | rfl | rfl | rfl | rfl | rfl | rfl | rfl | rfl
    · obtain ⟨a, p, r, d, C, ha, hp, hr, hd, hC0, hC, hpb, hdb, hab, haa, hst, hlow⟩ := row_law m n 0
      rw [← hp] at c0 c1 c2 c3 c4 c5 c6 c7 c8
      rw [← hd] at n0 n1 n2 n3 n4 n5 n6 n7 n8
      rw [← ha] at a0
      have HP := Lib.hid hp
      have HD := Lib.hid hd
      have AH := Lib.hid ha
      clear a1 a2 a3 a4 a5 a6 a7 a8
      have HR' := Lib.hid hr
      have KC := Lib.hid hC
      have KP := Lib.hid hpb
      have KD := Lib.hid hdb
      have KA := Lib.hid hab
      have KS := Lib.hid hst
      have KL := Lib.hid hlow
      have s0 : (p 0 + a * d 0) % 65536 = r 0 ∧ (p 0 + a * d 0) / 65536 = C 1 := by have h := hst 0; rw [hC0] at h; simpa using h
      have KS0 := Lib.hid s0
      clear s0 hp hr hd ha hC hpb hdb hab hst hlow hC0
      go_wp2_with fail
      refine wp_loop_rounds 10 ?_
      have I0 : At m n w (p 0) (p 1) (p 2) (p 3) (p 4) (p 5) (p 6) (p 7) (p 8) wr := ⟨HA.out, HB.out, HR.out, by have h := HC.out; unfold Dk dcells at h; rw [← HP.out] at h; exact h, HF.out⟩
      have K0 := Lib.hid I0
      clear I0
      have b1 := KP.out 0
      have b2 := KD.out 0
      have b3 := KC.out 0
      have b4 := KA.out 0
      rw [rounds_succ]
      go_wp2_with fail
      go_quiet (fail)
      go_wp2_with fail
      rw [KS0.out.1, KS0.out.2]
      clear b1 b2 b3 b4
      have I1 : At m n w (r 0) (p 1) (p 2) (p 3) (p 4) (p 5) (p 6) (p 7) (p 8) _ := At.put K0.out nq 0 (r 0) rfl
      clear c0 c1 c2 c3 c4 c5 c6 c7 c8 f0 f1 f2 f3 f4 f5 f6 f7 f8 a0 n0 n1 n2 n3 n4 n5 n6 n7 n8 hlt
      generalize ((wr.drewN nq).setCell ⟨w.heap.size + 3, 0, none⟩ (.int .u64 (r 0))) = W1 at I1 ⊢
      clear nq
      obtain ⟨n0, n1, n2, n3, n4, n5, n6, n7, n8, _, _, _, _, _, _, _, _, _⟩ := c9 (w := W1) (g := w.heap.size + 1) (t := 41) (by have h := I1.2.1; unfold Dk dcells at h; rw [← HD.out] at h; exact h)
      obtain ⟨c0, c1, c2, c3, c4, c5, c6, c7, c8, f0, f1, f2, f3, f4, f5, f6, f7, f8⟩ := c9 I1.2.2.2.1
      have a0 : W1.cell? ⟨w.heap.size, 0, none⟩ = some (.int .u64 a) := by rw [AH.out]; exact (c9 I1.1.of).1
      have hlt := I1.2.2.2.1.lt
      have K1 := Lib.hid I1
      clear I1
      have b1 := KP.out 1
      have b2 := KD.out 1
      have b3 := KC.out 1
      have b4 := KA.out 1
      rw [rounds_succ]
      go_wp2_with fail
      go_quiet (fail)
      go_wp2_with fail
      rw [show (p 1 + a * d 1 + C 1) % 65536 = r 1 from (KS.out 1).1, show (p 1 + a * d 1 + C 1) / 65536 = C 2 from (KS.out 1).2]
      clear b1 b2 b3 b4
      have I2 : At m n w (r 0) (r 1) (p 2) (p 3) (p 4) (p 5) (p 6) (p 7) (p 8) _ := At.put K1.out nq 1 (r 1) rfl
      clear c0 c1 c2 c3 c4 c5 c6 c7 c8 f0 f1 f2 f3 f4 f5 f6 f7 f8 a0 n0 n1 n2 n3 n4 n5 n6 n7 n8 hlt
      generalize ((W1.drewN nq).setCell ⟨w.heap.size + 3, 1, none⟩ (.int .u64 (r 1))) = W2 at I2 ⊢
      clear nq
      obtain ⟨n0, n1, n2, n3, n4, n5, n6, n7, n8, _, _, _, _, _, _, _, _, _⟩ := c9 (w := W2) (g := w.heap.size + 1) (t := 41) (by have h := I2.2.1; unfold Dk dcells at h; rw [← HD.out] at h; exact h)
      obtain ⟨c0, c1, c2, c3, c4, c5, c6, c7, c8, f0, f1, f2, f3, f4, f5, f6, f7, f8⟩ := c9 I2.2.2.2.1
      have a0 : W2.cell? ⟨w.heap.size, 0, none⟩ = some (.int .u64 a) := by rw [AH.out]; exact (c9 I2.1.of).1
      have hlt := I2.2.2.2.1.lt
      have K2 := Lib.hid I2
      clear I2
      have b1 := KP.out 2
      have b2 := KD.out 2
      have b3 := KC.out 2
      have b4 := KA.out 2
      rw [rounds_succ]
      go_wp2_with fail
      go_quiet (fail)
      go_wp2_with fail
      rw [show (p 2 + a * d 2 + C 2) % 65536 = r 2 from (KS.out 2).1, show (p 2 + a * d 2 + C 2) / 65536 = C 3 from (KS.out 2).2]
      clear b1 b2 b3 b4
      have I3 : At m n w (r 0) (r 1) (r 2) (p 3) (p 4) (p 5) (p 6) (p 7) (p 8) _ := At.put K2.out nq 2 (r 2) rfl
      clear c0 c1 c2 c3 c4 c5 c6 c7 c8 f0 f1 f2 f3 f4 f5 f6 f7 f8 a0 n0 n1 n2 n3 n4 n5 n6 n7 n8 hlt
      generalize ((W2.drewN nq).setCell ⟨w.heap.size + 3, 2, none⟩ (.int .u64 (r 2))) = W3 at I3 ⊢
      clear nq
      obtain ⟨n0, n1, n2, n3, n4, n5, n6, n7, n8, _, _, _, _, _, _, _, _, _⟩ := c9 (w := W3) (g := w.heap.size + 1) (t := 41) (by have h := I3.2.1; unfold Dk dcells at h; rw [← HD.out] at h; exact h)
      obtain ⟨c0, c1, c2, c3, c4, c5, c6, c7, c8, f0, f1, f2, f3, f4, f5, f6, f7, f8⟩ := c9 I3.2.2.2.1
      have a0 : W3.cell? ⟨w.heap.size, 0, none⟩ = some (.int .u64 a) := by rw [AH.out]; exact (c9 I3.1.of).1
      have hlt := I3.2.2.2.1.lt
      have K3 := Lib.hid I3
      clear I3
      have b1 := KP.out 3
      have b2 := KD.out 3
      have b3 := KC.out 3
      have b4 := KA.out 3
      rw [rounds_succ]
      go_wp2_with fail
      go_quiet (fail)
      go_wp2_with fail
      rw [show (p 3 + a * d 3 + C 3) % 65536 = r 3 from (KS.out 3).1, show (p 3 + a * d 3 + C 3) / 65536 = C 4 from (KS.out 3).2]
      clear b1 b2 b3 b4
      have I4 : At m n w (r 0) (r 1) (r 2) (r 3) (p 4) (p 5) (p 6) (p 7) (p 8) _ := At.put K3.out nq 3 (r 3) rfl
      clear c0 c1 c2 c3 c4 c5 c6 c7 c8 f0 f1 f2 f3 f4 f5 f6 f7 f8 a0 n0 n1 n2 n3 n4 n5 n6 n7 n8 hlt
      generalize ((W3.drewN nq).setCell ⟨w.heap.size + 3, 3, none⟩ (.int .u64 (r 3))) = W4 at I4 ⊢
      clear nq
      obtain ⟨n0, n1, n2, n3, n4, n5, n6, n7, n8, _, _, _, _, _, _, _, _, _⟩ := c9 (w := W4) (g := w.heap.size + 1) (t := 41) (by have h := I4.2.1; unfold Dk dcells at h; rw [← HD.out] at h; exact h)
      obtain ⟨c0, c1, c2, c3, c4, c5, c6, c7, c8, f0, f1, f2, f3, f4, f5, f6, f7, f8⟩ := c9 I4.2.2.2.1
      have a0 : W4.cell? ⟨w.heap.size, 0, none⟩ = some (.int .u64 a) := by rw [AH.out]; exact (c9 I4.1.of).1
      have hlt := I4.2.2.2.1.lt
      have K4 := Lib.hid I4
      clear I4
      have b1 := KP.out 4
      have b2 := KD.out 4
      have b3 := KC.out 4
      have b4 := KA.out 4
      rw [rounds_succ]
      go_wp2_with fail
      go_quiet (fail)
      go_wp2_with fail
      rw [show (p 4 + a * d 4 + C 4) % 65536 = r 4 from (KS.out 4).1, show (p 4 + a * d 4 + C 4) / 65536 = C 5 from (KS.out 4).2]
      clear b1 b2 b3 b4
      have I5 : At m n w (r 0) (r 1) (r 2) (r 3) (r 4) (p 5) (p 6) (p 7) (p 8) _ := At.put K4.out nq 4 (r 4) rfl
      clear c0 c1 c2 c3 c4 c5 c6 c7 c8 f0 f1 f2 f3 f4 f5 f6 f7 f8 a0 n0 n1 n2 n3 n4 n5 n6 n7 n8 hlt
      generalize ((W4.drewN nq).setCell ⟨w.heap.size + 3, 4, none⟩ (.int .u64 (r 4))) = W5 at I5 ⊢
      clear nq
      obtain ⟨n0, n1, n2, n3, n4, n5, n6, n7, n8, _, _, _, _, _, _, _, _, _⟩ := c9 (w := W5) (g := w.heap.size + 1) (t := 41) (by have h := I5.2.1; unfold Dk dcells at h; rw [← HD.out] at h; exact h)
      obtain ⟨c0, c1, c2, c3, c4, c5, c6, c7, c8, f0, f1, f2, f3, f4, f5, f6, f7, f8⟩ := c9 I5.2.2.2.1
      have a0 : W5.cell? ⟨w.heap.size, 0, none⟩ = some (.int .u64 a) := by rw [AH.out]; exact (c9 I5.1.of).1
      have hlt := I5.2.2.2.1.lt
      have K5 := Lib.hid I5
      clear I5
      have b1 := KP.out 5
      have b2 := KD.out 5
      have b3 := KC.out 5
      have b4 := KA.out 5
      rw [rounds_succ]
      go_wp2_with fail
      go_quiet (fail)
      go_wp2_with fail
      rw [show (p 5 + a * d 5 + C 5) % 65536 = r 5 from (KS.out 5).1, show (p 5 + a * d 5 + C 5) / 65536 = C 6 from (KS.out 5).2]
      clear b1 b2 b3 b4
      have I6 : At m n w (r 0) (r 1) (r 2) (r 3) (r 4) (r 5) (p 6) (p 7) (p 8) _ := At.put K5.out nq 5 (r 5) rfl
      clear c0 c1 c2 c3 c4 c5 c6 c7 c8 f0 f1 f2 f3 f4 f5 f6 f7 f8 a0 n0 n1 n2 n3 n4 n5 n6 n7 n8 hlt
      generalize ((W5.drewN nq).setCell ⟨w.heap.size + 3, 5, none⟩ (.int .u64 (r 5))) = W6 at I6 ⊢
      clear nq
      obtain ⟨n0, n1, n2, n3, n4, n5, n6, n7, n8, _, _, _, _, _, _, _, _, _⟩ := c9 (w := W6) (g := w.heap.size + 1) (t := 41) (by have h := I6.2.1; unfold Dk dcells at h; rw [← HD.out] at h; exact h)
      obtain ⟨c0, c1, c2, c3, c4, c5, c6, c7, c8, f0, f1, f2, f3, f4, f5, f6, f7, f8⟩ := c9 I6.2.2.2.1
      have a0 : W6.cell? ⟨w.heap.size, 0, none⟩ = some (.int .u64 a) := by rw [AH.out]; exact (c9 I6.1.of).1
      have hlt := I6.2.2.2.1.lt
      have K6 := Lib.hid I6
      clear I6
      have b1 := KP.out 6
      have b2 := KD.out 6
      have b3 := KC.out 6
      have b4 := KA.out 6
      rw [rounds_succ]
      go_wp2_with fail
      go_quiet (fail)
      go_wp2_with fail
      rw [show (p 6 + a * d 6 + C 6) % 65536 = r 6 from (KS.out 6).1, show (p 6 + a * d 6 + C 6) / 65536 = C 7 from (KS.out 6).2]
      clear b1 b2 b3 b4
      have I7 : At m n w (r 0) (r 1) (r 2) (r 3) (r 4) (r 5) (r 6) (p 7) (p 8) _ := At.put K6.out nq 6 (r 6) rfl
      clear c0 c1 c2 c3 c4 c5 c6 c7 c8 f0 f1 f2 f3 f4 f5 f6 f7 f8 a0 n0 n1 n2 n3 n4 n5 n6 n7 n8 hlt
      generalize ((W6.drewN nq).setCell ⟨w.heap.size + 3, 6, none⟩ (.int .u64 (r 6))) = W7 at I7 ⊢
      clear nq
      obtain ⟨n0, n1, n2, n3, n4, n5, n6, n7, n8, _, _, _, _, _, _, _, _, _⟩ := c9 (w := W7) (g := w.heap.size + 1) (t := 41) (by have h := I7.2.1; unfold Dk dcells at h; rw [← HD.out] at h; exact h)
      obtain ⟨c0, c1, c2, c3, c4, c5, c6, c7, c8, f0, f1, f2, f3, f4, f5, f6, f7, f8⟩ := c9 I7.2.2.2.1
      have a0 : W7.cell? ⟨w.heap.size, 0, none⟩ = some (.int .u64 a) := by rw [AH.out]; exact (c9 I7.1.of).1
      have hlt := I7.2.2.2.1.lt
      have K7 := Lib.hid I7
      clear I7
      have b1 := KP.out 7
      have b2 := KD.out 7
      have b3 := KC.out 7
      have b4 := KA.out 7
      rw [rounds_succ]
      go_wp2_with fail
      go_quiet (fail)
      go_wp2_with fail
      rw [show (p 7 + a * d 7 + C 7) % 65536 = r 7 from (KS.out 7).1, show (p 7 + a * d 7 + C 7) / 65536 = C 8 from (KS.out 7).2]
      clear b1 b2 b3 b4
      have I8 : At m n w (r 0) (r 1) (r 2) (r 3) (r 4) (r 5) (r 6) (r 7) (p 8) _ := At.put K7.out nq 7 (r 7) rfl
      clear c0 c1 c2 c3 c4 c5 c6 c7 c8 f0 f1 f2 f3 f4 f5 f6 f7 f8 a0 n0 n1 n2 n3 n4 n5 n6 n7 n8 hlt
      generalize ((W7.drewN nq).setCell ⟨w.heap.size + 3, 7, none⟩ (.int .u64 (r 7))) = W8 at I8 ⊢
      clear nq
      obtain ⟨n0, n1, n2, n3, n4, n5, n6, n7, n8, _, _, _, _, _, _, _, _, _⟩ := c9 (w := W8) (g := w.heap.size + 1) (t := 41) (by have h := I8.2.1; unfold Dk dcells at h; rw [← HD.out] at h; exact h)
      obtain ⟨c0, c1, c2, c3, c4, c5, c6, c7, c8, f0, f1, f2, f3, f4, f5, f6, f7, f8⟩ := c9 I8.2.2.2.1
      have a0 : W8.cell? ⟨w.heap.size, 0, none⟩ = some (.int .u64 a) := by rw [AH.out]; exact (c9 I8.1.of).1
      have hlt := I8.2.2.2.1.lt
      have K8 := Lib.hid I8
      clear I8
      have b1 := KP.out 8
      have b2 := KD.out 8
      have b3 := KC.out 8
      have b4 := KA.out 8
      rw [rounds_succ]
      go_wp2_with fail
      go_quiet (fail)
      go_wp2_with fail
      rw [show (p 8 + a * d 8 + C 8) % 65536 = r 8 from (KS.out 8).1, show (p 8 + a * d 8 + C 8) / 65536 = C 9 from (KS.out 8).2]
      clear b1 b2 b3 b4
      have I9 : At m n w (r 0) (r 1) (r 2) (r 3) (r 4) (r 5) (r 6) (r 7) (r 8) _ := At.put K8.out nq 8 (r 8) rfl
      clear c0 c1 c2 c3 c4 c5 c6 c7 c8 f0 f1 f2 f3 f4 f5 f6 f7 f8 a0 n0 n1 n2 n3 n4 n5 n6 n7 n8 hlt
      generalize ((W8.drewN nq).setCell ⟨w.heap.size + 3, 8, none⟩ (.int .u64 (r 8))) = W9 at I9 ⊢
      clear nq
      obtain ⟨n0, n1, n2, n3, n4, n5, n6, n7, n8, _, _, _, _, _, _, _, _, _⟩ := c9 (w := W9) (g := w.heap.size + 1) (t := 41) (by have h := I9.2.1; unfold Dk dcells at h; rw [← HD.out] at h; exact h)
      obtain ⟨c0, c1, c2, c3, c4, c5, c6, c7, c8, f0, f1, f2, f3, f4, f5, f6, f7, f8⟩ := c9 I9.2.2.2.1
      have a0 : W9.cell? ⟨w.heap.size, 0, none⟩ = some (.int .u64 a) := by rw [AH.out]; exact (c9 I9.1.of).1
      have hlt := I9.2.2.2.1.lt
      have K9 := Lib.hid I9
      clear I9
      rw [rounds_succ]
      go_wp2_with fail
      go_roundw
      case rel =>
        refine ⟨1, by omega, by go_num, K9.out.1, K9.out.2.1, K9.out.2.2.1, ?_, K9.out.2.2.2.2⟩
        have hh := K9.out.2.2.2.1
        unfold Dk dcells
        rw [← show r = dg (WideA.part m n 1) from HR'.out]

        exact hh
      case measure => simp [intOf]
    · obtain ⟨a, p, r, d, C, ha, hp, hr, hd, hC0, hC, hpb, hdb, hab, haa, hst, hlow⟩ := row_law m n 1
      rw [← hp] at c0 c1 c2 c3 c4 c5 c6 c7 c8
      rw [← hd] at n0 n1 n2 n3 n4 n5 n6 n7 n8
      rw [← ha] at a1
      have HP := Lib.hid hp
      have HD := Lib.hid hd
      have AH := Lib.hid ha
      clear a0 a2 a3 a4 a5 a6 a7 a8
      have HR' := Lib.hid hr
      have KC := Lib.hid hC
      have KP := Lib.hid hpb
      have KD := Lib.hid hdb
      have KA := Lib.hid hab
      have KS := Lib.hid hst
      have KL := Lib.hid hlow
      have s0 : (p 1 + a * d 0) % 65536 = r 1 ∧ (p 1 + a * d 0) / 65536 = C 1 := by have h := hst 0; rw [hC0] at h; simpa using h
      have KS0 := Lib.hid s0
      clear s0 hp hr hd ha hC hpb hdb hab hst hlow hC0
      go_wp2_with fail
      refine wp_loop_rounds 9 ?_
      have I0 : At m n w (p 0) (p 1) (p 2) (p 3) (p 4) (p 5) (p 6) (p 7) (p 8) wr := ⟨HA.out, HB.out, HR.out, by have h := HC.out; unfold Dk dcells at h; rw [← HP.out] at h; exact h, HF.out⟩
      have K0 := Lib.hid I0
      clear I0
      have b1 := KP.out 1
      have b2 := KD.out 0
      have b3 := KC.out 0
      have b4 := KA.out 0
      rw [rounds_succ]
      go_wp2_with fail
      go_quiet (fail)
      go_wp2_with fail
      rw [KS0.out.1, KS0.out.2]
      clear b1 b2 b3 b4
      have I1 : At m n w (p 0) (r 1) (p 2) (p 3) (p 4) (p 5) (p 6) (p 7) (p 8) _ := At.put K0.out nq 1 (r 1) rfl
      clear c0 c1 c2 c3 c4 c5 c6 c7 c8 f0 f1 f2 f3 f4 f5 f6 f7 f8 a1 n0 n1 n2 n3 n4 n5 n6 n7 n8 hlt
      generalize ((wr.drewN nq).setCell ⟨w.heap.size + 3, 1, none⟩ (.int .u64 (r 1))) = W1 at I1 ⊢
      clear nq
      obtain ⟨n0, n1, n2, n3, n4, n5, n6, n7, n8, _, _, _, _, _, _, _, _, _⟩ := c9 (w := W1) (g := w.heap.size + 1) (t := 41) (by have h := I1.2.1; unfold Dk dcells at h; rw [← HD.out] at h; exact h)
      obtain ⟨c0, c1, c2, c3, c4, c5, c6, c7, c8, f0, f1, f2, f3, f4, f5, f6, f7, f8⟩ := c9 I1.2.2.2.1
      have a1 : W1.cell? ⟨w.heap.size, 1, none⟩ = some (.int .u64 a) := by rw [AH.out]; exact (c9 I1.1.of).2.1
      have hlt := I1.2.2.2.1.lt
      have K1 := Lib.hid I1
      clear I1
      have b1 := KP.out 2
      have b2 := KD.out 1
      have b3 := KC.out 1
      have b4 := KA.out 1
      rw [rounds_succ]
      go_wp2_with fail
      go_quiet (fail)
      go_wp2_with fail
      rw [show (p 2 + a * d 1 + C 1) % 65536 = r 2 from (KS.out 1).1, show (p 2 + a * d 1 + C 1) / 65536 = C 2 from (KS.out 1).2]
      clear b1 b2 b3 b4
      have I2 : At m n w (p 0) (r 1) (r 2) (p 3) (p 4) (p 5) (p 6) (p 7) (p 8) _ := At.put K1.out nq 2 (r 2) rfl
      clear c0 c1 c2 c3 c4 c5 c6 c7 c8 f0 f1 f2 f3 f4 f5 f6 f7 f8 a1 n0 n1 n2 n3 n4 n5 n6 n7 n8 hlt
      generalize ((W1.drewN nq).setCell ⟨w.heap.size + 3, 2, none⟩ (.int .u64 (r 2))) = W2 at I2 ⊢
      clear nq
      obtain ⟨n0, n1, n2, n3, n4, n5, n6, n7, n8, _, _, _, _, _, _, _, _, _⟩ := c9 (w := W2) (g := w.heap.size + 1) (t := 41) (by have h := I2.2.1; unfold Dk dcells at h; rw [← HD.out] at h; exact h)
      obtain ⟨c0, c1, c2, c3, c4, c5, c6, c7, c8, f0, f1, f2, f3, f4, f5, f6, f7, f8⟩ := c9 I2.2.2.2.1
      have a1 : W2.cell? ⟨w.heap.size, 1, none⟩ = some (.int .u64 a) := by rw [AH.out]; exact (c9 I2.1.of).2.1
      have hlt := I2.2.2.2.1.lt
      have K2 := Lib.hid I2
      clear I2
      have b1 := KP.out 3
      have b2 := KD.out 2
      have b3 := KC.out 2
      have b4 := KA.out 2
      rw [rounds_succ]
      go_wp2_with fail
      go_quiet (fail)
      go_wp2_with fail
      rw [show (p 3 + a * d 2 + C 2) % 65536 = r 3 from (KS.out 2).1, show (p 3 + a * d 2 + C 2) / 65536 = C 3 from (KS.out 2).2]
      clear b1 b2 b3 b4
      have I3 : At m n w (p 0) (r 1) (r 2) (r 3) (p 4) (p 5) (p 6) (p 7) (p 8) _ := At.put K2.out nq 3 (r 3) rfl
      clear c0 c1 c2 c3 c4 c5 c6 c7 c8 f0 f1 f2 f3 f4 f5 f6 f7 f8 a1 n0 n1 n2 n3 n4 n5 n6 n7 n8 hlt
      generalize ((W2.drewN nq).setCell ⟨w.heap.size + 3, 3, none⟩ (.int .u64 (r 3))) = W3 at I3 ⊢
      clear nq
      obtain ⟨n0, n1, n2, n3, n4, n5, n6, n7, n8, _, _, _, _, _, _, _, _, _⟩ := c9 (w := W3) (g := w.heap.size + 1) (t := 41) (by have h := I3.2.1; unfold Dk dcells at h; rw [← HD.out] at h; exact h)
      obtain ⟨c0, c1, c2, c3, c4, c5, c6, c7, c8, f0, f1, f2, f3, f4, f5, f6, f7, f8⟩ := c9 I3.2.2.2.1
      have a1 : W3.cell? ⟨w.heap.size, 1, none⟩ = some (.int .u64 a) := by rw [AH.out]; exact (c9 I3.1.of).2.1
      have hlt := I3.2.2.2.1.lt
      have K3 := Lib.hid I3
      clear I3
      have b1 := KP.out 4
      have b2 := KD.out 3
      have b3 := KC.out 3
      have b4 := KA.out 3
      rw [rounds_succ]
      go_wp2_with fail
      go_quiet (fail)
      go_wp2_with fail
      rw [show (p 4 + a * d 3 + C 3) % 65536 = r 4 from (KS.out 3).1, show (p 4 + a * d 3 + C 3) / 65536 = C 4 from (KS.out 3).2]
      clear b1 b2 b3 b4
      have I4 : At m n w (p 0) (r 1) (r 2) (r 3) (r 4) (p 5) (p 6) (p 7) (p 8) _ := At.put K3.out nq 4 (r 4) rfl
      clear c0 c1 c2 c3 c4 c5 c6 c7 c8 f0 f1 f2 f3 f4 f5 f6 f7 f8 a1 n0 n1 n2 n3 n4 n5 n6 n7 n8 hlt
      generalize ((W3.drewN nq).setCell ⟨w.heap.size + 3, 4, none⟩ (.int .u64 (r 4))) = W4 at I4 ⊢
      clear nq
      obtain ⟨n0, n1, n2, n3, n4, n5, n6, n7, n8, _, _, _, _, _, _, _, _, _⟩ := c9 (w := W4) (g := w.heap.size + 1) (t := 41) (by have h := I4.2.1; unfold Dk dcells at h; rw [← HD.out] at h; exact h)
      obtain ⟨c0, c1, c2, c3, c4, c5, c6, c7, c8, f0, f1, f2, f3, f4, f5, f6, f7, f8⟩ := c9 I4.2.2.2.1
      have a1 : W4.cell? ⟨w.heap.size, 1, none⟩ = some (.int .u64 a) := by rw [AH.out]; exact (c9 I4.1.of).2.1
      have hlt := I4.2.2.2.1.lt
      have K4 := Lib.hid I4
      clear I4
      have b1 := KP.out 5
      have b2 := KD.out 4
      have b3 := KC.out 4
      have b4 := KA.out 4
      rw [rounds_succ]
      go_wp2_with fail
      go_quiet (fail)
      go_wp2_with fail
      rw [show (p 5 + a * d 4 + C 4) % 65536 = r 5 from (KS.out 4).1, show (p 5 + a * d 4 + C 4) / 65536 = C 5 from (KS.out 4).2]
      clear b1 b2 b3 b4
      have I5 : At m n w (p 0) (r 1) (r 2) (r 3) (r 4) (r 5) (p 6) (p 7) (p 8) _ := At.put K4.out nq 5 (r 5) rfl
      clear c0 c1 c2 c3 c4 c5 c6 c7 c8 f0 f1 f2 f3 f4 f5 f6 f7 f8 a1 n0 n1 n2 n3 n4 n5 n6 n7 n8 hlt
      generalize ((W4.drewN nq).setCell ⟨w.heap.size + 3, 5, none⟩ (.int .u64 (r 5))) = W5 at I5 ⊢
      clear nq
      obtain ⟨n0, n1, n2, n3, n4, n5, n6, n7, n8, _, _, _, _, _, _, _, _, _⟩ := c9 (w := W5) (g := w.heap.size + 1) (t := 41) (by have h := I5.2.1; unfold Dk dcells at h; rw [← HD.out] at h; exact h)
      obtain ⟨c0, c1, c2, c3, c4, c5, c6, c7, c8, f0, f1, f2, f3, f4, f5, f6, f7, f8⟩ := c9 I5.2.2.2.1
      have a1 : W5.cell? ⟨w.heap.size, 1, none⟩ = some (.int .u64 a) := by rw [AH.out]; exact (c9 I5.1.of).2.1
      have hlt := I5.2.2.2.1.lt
      have K5 := Lib.hid I5
      clear I5
      have b1 := KP.out 6
      have b2 := KD.out 5
      have b3 := KC.out 5
      have b4 := KA.out 5
      rw [rounds_succ]
      go_wp2_with fail
      go_quiet (fail)
      go_wp2_with fail
      rw [show (p 6 + a * d 5 + C 5) % 65536 = r 6 from (KS.out 5).1, show (p 6 + a * d 5 + C 5) / 65536 = C 6 from (KS.out 5).2]
      clear b1 b2 b3 b4
      have I6 : At m n w (p 0) (r 1) (r 2) (r 3) (r 4) (r 5) (r 6) (p 7) (p 8) _ := At.put K5.out nq 6 (r 6) rfl
      clear c0 c1 c2 c3 c4 c5 c6 c7 c8 f0 f1 f2 f3 f4 f5 f6 f7 f8 a1 n0 n1 n2 n3 n4 n5 n6 n7 n8 hlt
      generalize ((W5.drewN nq).setCell ⟨w.heap.size + 3, 6, none⟩ (.int .u64 (r 6))) = W6 at I6 ⊢
      clear nq
      obtain ⟨n0, n1, n2, n3, n4, n5, n6, n7, n8, _, _, _, _, _, _, _, _, _⟩ := c9 (w := W6) (g := w.heap.size + 1) (t := 41) (by have h := I6.2.1; unfold Dk dcells at h; rw [← HD.out] at h; exact h)
      obtain ⟨c0, c1, c2, c3, c4, c5, c6, c7, c8, f0, f1, f2, f3, f4, f5, f6, f7, f8⟩ := c9 I6.2.2.2.1
      have a1 : W6.cell? ⟨w.heap.size, 1, none⟩ = some (.int .u64 a) := by rw [AH.out]; exact (c9 I6.1.of).2.1
      have hlt := I6.2.2.2.1.lt
      have K6 := Lib.hid I6
      clear I6
      have b1 := KP.out 7
      have b2 := KD.out 6
      have b3 := KC.out 6
      have b4 := KA.out 6
      rw [rounds_succ]
      go_wp2_with fail
      go_quiet (fail)
      go_wp2_with fail
      rw [show (p 7 + a * d 6 + C 6) % 65536 = r 7 from (KS.out 6).1, show (p 7 + a * d 6 + C 6) / 65536 = C 7 from (KS.out 6).2]
      clear b1 b2 b3 b4
      have I7 : At m n w (p 0) (r 1) (r 2) (r 3) (r 4) (r 5) (r 6) (r 7) (p 8) _ := At.put K6.out nq 7 (r 7) rfl
      clear c0 c1 c2 c3 c4 c5 c6 c7 c8 f0 f1 f2 f3 f4 f5 f6 f7 f8 a1 n0 n1 n2 n3 n4 n5 n6 n7 n8 hlt
      generalize ((W6.drewN nq).setCell ⟨w.heap.size + 3, 7, none⟩ (.int .u64 (r 7))) = W7 at I7 ⊢
      clear nq
      obtain ⟨n0, n1, n2, n3, n4, n5, n6, n7, n8, _, _, _, _, _, _, _, _, _⟩ := c9 (w := W7) (g := w.heap.size + 1) (t := 41) (by have h := I7.2.1; unfold Dk dcells at h; rw [← HD.out] at h; exact h)
      obtain ⟨c0, c1, c2, c3, c4, c5, c6, c7, c8, f0, f1, f2, f3, f4, f5, f6, f7, f8⟩ := c9 I7.2.2.2.1
      have a1 : W7.cell? ⟨w.heap.size, 1, none⟩ = some (.int .u64 a) := by rw [AH.out]; exact (c9 I7.1.of).2.1
      have hlt := I7.2.2.2.1.lt
      have K7 := Lib.hid I7
      clear I7
      have b1 := KP.out 8
      have b2 := KD.out 7
      have b3 := KC.out 7
      have b4 := KA.out 7
      rw [rounds_succ]
      go_wp2_with fail
      go_quiet (fail)
      go_wp2_with fail
      rw [show (p 8 + a * d 7 + C 7) % 65536 = r 8 from (KS.out 7).1, show (p 8 + a * d 7 + C 7) / 65536 = C 8 from (KS.out 7).2]
      clear b1 b2 b3 b4
      have I8 : At m n w (p 0) (r 1) (r 2) (r 3) (r 4) (r 5) (r 6) (r 7) (r 8) _ := At.put K7.out nq 8 (r 8) rfl
      clear c0 c1 c2 c3 c4 c5 c6 c7 c8 f0 f1 f2 f3 f4 f5 f6 f7 f8 a1 n0 n1 n2 n3 n4 n5 n6 n7 n8 hlt
      generalize ((W7.drewN nq).setCell ⟨w.heap.size + 3, 8, none⟩ (.int .u64 (r 8))) = W8 at I8 ⊢
      clear nq
      obtain ⟨n0, n1, n2, n3, n4, n5, n6, n7, n8, _, _, _, _, _, _, _, _, _⟩ := c9 (w := W8) (g := w.heap.size + 1) (t := 41) (by have h := I8.2.1; unfold Dk dcells at h; rw [← HD.out] at h; exact h)
      obtain ⟨c0, c1, c2, c3, c4, c5, c6, c7, c8, f0, f1, f2, f3, f4, f5, f6, f7, f8⟩ := c9 I8.2.2.2.1
      have a1 : W8.cell? ⟨w.heap.size, 1, none⟩ = some (.int .u64 a) := by rw [AH.out]; exact (c9 I8.1.of).2.1
      have hlt := I8.2.2.2.1.lt
      have K8 := Lib.hid I8
      clear I8
      rw [rounds_succ]
      go_wp2_with fail
      go_roundw
      case rel =>
        refine ⟨2, by omega, by go_num, K8.out.1, K8.out.2.1, K8.out.2.2.1, ?_, K8.out.2.2.2.2⟩
        have hh := K8.out.2.2.2.1
        have l0 := KL.out 0 (by omega)
        unfold Dk dcells
        rw [← show r = dg (WideA.part m n 2) from HR'.out]
        rw [l0]
        exact hh
      case measure => simp [intOf]
    · obtain ⟨a, p, r, d, C, ha, hp, hr, hd, hC0, hC, hpb, hdb, hab, haa, hst, hlow⟩ := row_law m n 2
      rw [← hp] at c0 c1 c2 c3 c4 c5 c6 c7 c8
      rw [← hd] at n0 n1 n2 n3 n4 n5 n6 n7 n8
      rw [← ha] at a2
      have HP := Lib.hid hp
      have HD := Lib.hid hd
      have AH := Lib.hid ha
      clear a0 a1 a3 a4 a5 a6 a7 a8
      have HR' := Lib.hid hr
      have KC := Lib.hid hC
      have KP := Lib.hid hpb
      have KD := Lib.hid hdb
      have KA := Lib.hid hab
      have KS := Lib.hid hst
      have KL := Lib.hid hlow
      have s0 : (p 2 + a * d 0) % 65536 = r 2 ∧ (p 2 + a * d 0) / 65536 = C 1 := by have h := hst 0; rw [hC0] at h; simpa using h
      have KS0 := Lib.hid s0
      clear s0 hp hr hd ha hC hpb hdb hab hst hlow hC0
      go_wp2_with fail
      refine wp_loop_rounds 8 ?_
      have I0 : At m n w (p 0) (p 1) (p 2) (p 3) (p 4) (p 5) (p 6) (p 7) (p 8) wr := ⟨HA.out, HB.out, HR.out, by have h := HC.out; unfold Dk dcells at h; rw [← HP.out] at h; exact h, HF.out⟩
      have K0 := Lib.hid I0
      clear I0
      have b1 := KP.out 2
      have b2 := KD.out 0
      have b3 := KC.out 0
      have b4 := KA.out 0
      rw [rounds_succ]
      go_wp2_with fail
      go_quiet (fail)
      go_wp2_with fail
      rw [KS0.out.1, KS0.out.2]
      clear b1 b2 b3 b4
      have I1 : At m n w (p 0) (p 1) (r 2) (p 3) (p 4) (p 5) (p 6) (p 7) (p 8) _ := At.put K0.out nq 2 (r 2) rfl
      clear c0 c1 c2 c3 c4 c5 c6 c7 c8 f0 f1 f2 f3 f4 f5 f6 f7 f8 a2 n0 n1 n2 n3 n4 n5 n6 n7 n8 hlt
      generalize ((wr.drewN nq).setCell ⟨w.heap.size + 3, 2, none⟩ (.int .u64 (r 2))) = W1 at I1 ⊢
      clear nq
      obtain ⟨n0, n1, n2, n3, n4, n5, n6, n7, n8, _, _, _, _, _, _, _, _, _⟩ := c9 (w := W1) (g := w.heap.size + 1) (t := 41) (by have h := I1.2.1; unfold Dk dcells at h; rw [← HD.out] at h; exact h)
      obtain ⟨c0, c1, c2, c3, c4, c5, c6, c7, c8, f0, f1, f2, f3, f4, f5, f6, f7, f8⟩ := c9 I1.2.2.2.1
      have a2 : W1.cell? ⟨w.heap.size, 2, none⟩ = some (.int .u64 a) := by rw [AH.out]; exact (c9 I1.1.of).2.2.1
      have hlt := I1.2.2.2.1.lt
      have K1 := Lib.hid I1
      clear I1
      have b1 := KP.out 3
      have b2 := KD.out 1
      have b3 := KC.out 1
      have b4 := KA.out 1
      rw [rounds_succ]
      go_wp2_with fail
      go_quiet (fail)
      go_wp2_with fail
      rw [show (p 3 + a * d 1 + C 1) % 65536 = r 3 from (KS.out 1).1, show (p 3 + a * d 1 + C 1) / 65536 = C 2 from (KS.out 1).2]
      clear b1 b2 b3 b4
      have I2 : At m n w (p 0) (p 1) (r 2) (r 3) (p 4) (p 5) (p 6) (p 7) (p 8) _ := At.put K1.out nq 3 (r 3) rfl
      clear c0 c1 c2 c3 c4 c5 c6 c7 c8 f0 f1 f2 f3 f4 f5 f6 f7 f8 a2 n0 n1 n2 n3 n4 n5 n6 n7 n8 hlt
      generalize ((W1.drewN nq).setCell ⟨w.heap.size + 3, 3, none⟩ (.int .u64 (r 3))) = W2 at I2 ⊢
      clear nq
      obtain ⟨n0, n1, n2, n3, n4, n5, n6, n7, n8, _, _, _, _, _, _, _, _, _⟩ := c9 (w := W2) (g := w.heap.size + 1) (t := 41) (by have h := I2.2.1; unfold Dk dcells at h; rw [← HD.out] at h; exact h)
      obtain ⟨c0, c1, c2, c3, c4, c5, c6, c7, c8, f0, f1, f2, f3, f4, f5, f6, f7, f8⟩ := c9 I2.2.2.2.1
      have a2 : W2.cell? ⟨w.heap.size, 2, none⟩ = some (.int .u64 a) := by rw [AH.out]; exact (c9 I2.1.of).2.2.1
      have hlt := I2.2.2.2.1.lt
      have K2 := Lib.hid I2
      clear I2
      have b1 := KP.out 4
      have b2 := KD.out 2
      have b3 := KC.out 2
      have b4 := KA.out 2
      rw [rounds_succ]
      go_wp2_with fail
      go_quiet (fail)
      go_wp2_with fail
      rw [show (p 4 + a * d 2 + C 2) % 65536 = r 4 from (KS.out 2).1, show (p 4 + a * d 2 + C 2) / 65536 = C 3 from (KS.out 2).2]
      clear b1 b2 b3 b4
      have I3 : At m n w (p 0) (p 1) (r 2) (r 3) (r 4) (p 5) (p 6) (p 7) (p 8) _ := At.put K2.out nq 4 (r 4) rfl
      clear c0 c1 c2 c3 c4 c5 c6 c7 c8 f0 f1 f2 f3 f4 f5 f6 f7 f8 a2 n0 n1 n2 n3 n4 n5 n6 n7 n8 hlt
      generalize ((W2.drewN nq).setCell ⟨w.heap.size + 3, 4, none⟩ (.int .u64 (r 4))) = W3 at I3 ⊢
      clear nq
      obtain ⟨n0, n1, n2, n3, n4, n5, n6, n7, n8, _, _, _, _, _, _, _, _, _⟩ := c9 (w := W3) (g := w.heap.size + 1) (t := 41) (by have h := I3.2.1; unfold Dk dcells at h; rw [← HD.out] at h; exact h)
      obtain ⟨c0, c1, c2, c3, c4, c5, c6, c7, c8, f0, f1, f2, f3, f4, f5, f6, f7, f8⟩ := c9 I3.2.2.2.1
      have a2 : W3.cell? ⟨w.heap.size, 2, none⟩ = some (.int .u64 a) := by rw [AH.out]; exact (c9 I3.1.of).2.2.1
      have hlt := I3.2.2.2.1.lt
      have K3 := Lib.hid I3
      clear I3
      have b1 := KP.out 5
      have b2 := KD.out 3
      have b3 := KC.out 3
      have b4 := KA.out 3
      rw [rounds_succ]
      go_wp2_with fail
      go_quiet (fail)
      go_wp2_with fail
      rw [show (p 5 + a * d 3 + C 3) % 65536 = r 5 from (KS.out 3).1, show (p 5 + a * d 3 + C 3) / 65536 = C 4 from (KS.out 3).2]
      clear b1 b2 b3 b4
      have I4 : At m n w (p 0) (p 1) (r 2) (r 3) (r 4) (r 5) (p 6) (p 7) (p 8) _ := At.put K3.out nq 5 (r 5) rfl
      clear c0 c1 c2 c3 c4 c5 c6 c7 c8 f0 f1 f2 f3 f4 f5 f6 f7 f8 a2 n0 n1 n2 n3 n4 n5 n6 n7 n8 hlt
      generalize ((W3.drewN nq).setCell ⟨w.heap.size + 3, 5, none⟩ (.int .u64 (r 5))) = W4 at I4 ⊢
      clear nq
      obtain ⟨n0, n1, n2, n3, n4, n5, n6, n7, n8, _, _, _, _, _, _, _, _, _⟩ := c9 (w := W4) (g := w.heap.size + 1) (t := 41) (by have h := I4.2.1; unfold Dk dcells at h; rw [← HD.out] at h; exact h)
      obtain ⟨c0, c1, c2, c3, c4, c5, c6, c7, c8, f0, f1, f2, f3, f4, f5, f6, f7, f8⟩ := c9 I4.2.2.2.1
      have a2 : W4.cell? ⟨w.heap.size, 2, none⟩ = some (.int .u64 a) := by rw [AH.out]; exact (c9 I4.1.of).2.2.1
      have hlt := I4.2.2.2.1.lt
      have K4 := Lib.hid I4
      clear I4
      have b1 := KP.out 6
      have b2 := KD.out 4
      have b3 := KC.out 4
      have b4 := KA.out 4
      rw [rounds_succ]
      go_wp2_with fail
      go_quiet (fail)
      go_wp2_with fail
      rw [show (p 6 + a * d 4 + C 4) % 65536 = r 6 from (KS.out 4).1, show (p 6 + a * d 4 + C 4) / 65536 = C 5 from (KS.out 4).2]
      clear b1 b2 b3 b4
      have I5 : At m n w (p 0) (p 1) (r 2) (r 3) (r 4) (r 5) (r 6) (p 7) (p 8) _ := At.put K4.out nq 6 (r 6) rfl
      clear c0 c1 c2 c3 c4 c5 c6 c7 c8 f0 f1 f2 f3 f4 f5 f6 f7 f8 a2 n0 n1 n2 n3 n4 n5 n6 n7 n8 hlt
      generalize ((W4.drewN nq).setCell ⟨w.heap.size + 3, 6, none⟩ (.int .u64 (r 6))) = W5 at I5 ⊢
      clear nq
      obtain ⟨n0, n1, n2, n3, n4, n5, n6, n7, n8, _, _, _, _, _, _, _, _, _⟩ := c9 (w := W5) (g := w.heap.size + 1) (t := 41) (by have h := I5.2.1; unfold Dk dcells at h; rw [← HD.out] at h; exact h)
      obtain ⟨c0, c1, c2, c3, c4, c5, c6, c7, c8, f0, f1, f2, f3, f4, f5, f6, f7, f8⟩ := c9 I5.2.2.2.1
      have a2 : W5.cell? ⟨w.heap.size, 2, none⟩ = some (.int .u64 a) := by rw [AH.out]; exact (c9 I5.1.of).2.2.1
      have hlt := I5.2.2.2.1.lt
      have K5 := Lib.hid I5
      clear I5
      have b1 := KP.out 7
      have b2 := KD.out 5
      have b3 := KC.out 5
      have b4 := KA.out 5
      rw [rounds_succ]
      go_wp2_with fail
      go_quiet (fail)
      go_wp2_with fail
      rw [show (p 7 + a * d 5 + C 5) % 65536 = r 7 from (KS.out 5).1, show (p 7 + a * d 5 + C 5) / 65536 = C 6 from (KS.out 5).2]
      clear b1 b2 b3 b4
      have I6 : At m n w (p 0) (p 1) (r 2) (r 3) (r 4) (r 5) (r 6) (r 7) (p 8) _ := At.put K5.out nq 7 (r 7) rfl
      clear c0 c1 c2 c3 c4 c5 c6 c7 c8 f0 f1 f2 f3 f4 f5 f6 f7 f8 a2 n0 n1 n2 n3 n4 n5 n6 n7 n8 hlt
      generalize ((W5.drewN nq).setCell ⟨w.heap.size + 3, 7, none⟩ (.int .u64 (r 7))) = W6 at I6 ⊢
      clear nq
      obtain ⟨n0, n1, n2, n3, n4, n5, n6, n7, n8, _, _, _, _, _, _, _, _, _⟩ := c9 (w := W6) (g := w.heap.size + 1) (t := 41) (by have h := I6.2.1; unfold Dk dcells at h; rw [← HD.out] at h; exact h)
      obtain ⟨c0, c1, c2, c3, c4, c5, c6, c7, c8, f0, f1, f2, f3, f4, f5, f6, f7, f8⟩ := c9 I6.2.2.2.1
      have a2 : W6.cell? ⟨w.heap.size, 2, none⟩ = some (.int .u64 a) := by rw [AH.out]; exact (c9 I6.1.of).2.2.1
      have hlt := I6.2.2.2.1.lt
      have K6 := Lib.hid I6
      clear I6
      have b1 := KP.out 8
      have b2 := KD.out 6
      have b3 := KC.out 6
      have b4 := KA.out 6
      rw [rounds_succ]
      go_wp2_with fail
      go_quiet (fail)
      go_wp2_with fail
      rw [show (p 8 + a * d 6 + C 6) % 65536 = r 8 from (KS.out 6).1, show (p 8 + a * d 6 + C 6) / 65536 = C 7 from (KS.out 6).2]
      clear b1 b2 b3 b4
      have I7 : At m n w (p 0) (p 1) (r 2) (r 3) (r 4) (r 5) (r 6) (r 7) (r 8) _ := At.put K6.out nq 8 (r 8) rfl
      clear c0 c1 c2 c3 c4 c5 c6 c7 c8 f0 f1 f2 f3 f4 f5 f6 f7 f8 a2 n0 n1 n2 n3 n4 n5 n6 n7 n8 hlt
      generalize ((W6.drewN nq).setCell ⟨w.heap.size + 3, 8, none⟩ (.int .u64 (r 8))) = W7 at I7 ⊢
      clear nq
      obtain ⟨n0, n1, n2, n3, n4, n5, n6, n7, n8, _, _, _, _, _, _, _, _, _⟩ := c9 (w := W7) (g := w.heap.size + 1) (t := 41) (by have h := I7.2.1; unfold Dk dcells at h; rw [← HD.out] at h; exact h)
      obtain ⟨c0, c1, c2, c3, c4, c5, c6, c7, c8, f0, f1, f2, f3, f4, f5, f6, f7, f8⟩ := c9 I7.2.2.2.1
      have a2 : W7.cell? ⟨w.heap.size, 2, none⟩ = some (.int .u64 a) := by rw [AH.out]; exact (c9 I7.1.of).2.2.1
      have hlt := I7.2.2.2.1.lt
      have K7 := Lib.hid I7
      clear I7
      rw [rounds_succ]
      go_wp2_with fail
      go_roundw
      case rel =>
        refine ⟨3, by omega, by go_num, K7.out.1, K7.out.2.1, K7.out.2.2.1, ?_, K7.out.2.2.2.2⟩
        have hh := K7.out.2.2.2.1
        have l0 := KL.out 0 (by omega)
        have l1 := KL.out 1 (by omega)
        unfold Dk dcells
        rw [← show r = dg (WideA.part m n 3) from HR'.out]
        rw [l0, l1]
        exact hh
      case measure => simp [intOf]
    · obtain ⟨a, p, r, d, C, ha, hp, hr, hd, hC0, hC, hpb, hdb, hab, haa, hst, hlow⟩ := row_law m n 3
      rw [← hp] at c0 c1 c2 c3 c4 c5 c6 c7 c8
      rw [← hd] at n0 n1 n2 n3 n4 n5 n6 n7 n8
      rw [← ha] at a3
      have HP := Lib.hid hp
      have HD := Lib.hid hd
      have AH := Lib.hid ha
      clear a0 a1 a2 a4 a5 a6 a7 a8
      have HR' := Lib.hid hr
      have KC := Lib.hid hC
      have KP := Lib.hid hpb
      have KD := Lib.hid hdb
      have KA := Lib.hid hab
      have KS := Lib.hid hst
      have KL := Lib.hid hlow
      have s0 : (p 3 + a * d 0) % 65536 = r 3 ∧ (p 3 + a * d 0) / 65536 = C 1 := by have h := hst 0; rw [hC0] at h; simpa using h
      have KS0 := Lib.hid s0
      clear s0 hp hr hd ha hC hpb hdb hab hst hlow hC0
      go_wp2_with fail
      refine wp_loop_rounds 7 ?_
      have I0 : At m n w (p 0) (p 1) (p 2) (p 3) (p 4) (p 5) (p 6) (p 7) (p 8) wr := ⟨HA.out, HB.out, HR.out, by have h := HC.out; unfold Dk dcells at h; rw [← HP.out] at h; exact h, HF.out⟩
      have K0 := Lib.hid I0
      clear I0
      have b1 := KP.out 3
      have b2 := KD.out 0
      have b3 := KC.out 0
      have b4 := KA.out 0
      rw [rounds_succ]
      go_wp2_with fail
      go_quiet (fail)
      go_wp2_with fail
      rw [KS0.out.1, KS0.out.2]
      clear b1 b2 b3 b4
      have I1 : At m n w (p 0) (p 1) (p 2) (r 3) (p 4) (p 5) (p 6) (p 7) (p 8) _ := At.put K0.out nq 3 (r 3) rfl
      clear c0 c1 c2 c3 c4 c5 c6 c7 c8 f0 f1 f2 f3 f4 f5 f6 f7 f8 a3 n0 n1 n2 n3 n4 n5 n6 n7 n8 hlt
      generalize ((wr.drewN nq).setCell ⟨w.heap.size + 3, 3, none⟩ (.int .u64 (r 3))) = W1 at I1 ⊢
      clear nq
      obtain ⟨n0, n1, n2, n3, n4, n5, n6, n7, n8, _, _, _, _, _, _, _, _, _⟩ := c9 (w := W1) (g := w.heap.size + 1) (t := 41) (by have h := I1.2.1; unfold Dk dcells at h; rw [← HD.out] at h; exact h)
      obtain ⟨c0, c1, c2, c3, c4, c5, c6, c7, c8, f0, f1, f2, f3, f4, f5, f6, f7, f8⟩ := c9 I1.2.2.2.1
      have a3 : W1.cell? ⟨w.heap.size, 3, none⟩ = some (.int .u64 a) := by rw [AH.out]; exact (c9 I1.1.of).2.2.2.1
      have hlt := I1.2.2.2.1.lt
      have K1 := Lib.hid I1
      clear I1
      have b1 := KP.out 4
      have b2 := KD.out 1
      have b3 := KC.out 1
      have b4 := KA.out 1
      rw [rounds_succ]
      go_wp2_with fail
      go_quiet (fail)
      go_wp2_with fail
      rw [show (p 4 + a * d 1 + C 1) % 65536 = r 4 from (KS.out 1).1, show (p 4 + a * d 1 + C 1) / 65536 = C 2 from (KS.out 1).2]
      clear b1 b2 b3 b4
      have I2 : At m n w (p 0) (p 1) (p 2) (r 3) (r 4) (p 5) (p 6) (p 7) (p 8) _ := At.put K1.out nq 4 (r 4) rfl
      clear c0 c1 c2 c3 c4 c5 c6 c7 c8 f0 f1 f2 f3 f4 f5 f6 f7 f8 a3 n0 n1 n2 n3 n4 n5 n6 n7 n8 hlt
      generalize ((W1.drewN nq).setCell ⟨w.heap.size + 3, 4, none⟩ (.int .u64 (r 4))) = W2 at I2 ⊢
      clear nq
      obtain ⟨n0, n1, n2, n3, n4, n5, n6, n7, n8, _, _, _, _, _, _, _, _, _⟩ := c9 (w := W2) (g := w.heap.size + 1) (t := 41) (by have h := I2.2.1; unfold Dk dcells at h; rw [← HD.out] at h; exact h)
      obtain ⟨c0, c1, c2, c3, c4, c5, c6, c7, c8, f0, f1, f2, f3, f4, f5, f6, f7, f8⟩ := c9 I2.2.2.2.1
      have a3 : W2.cell? ⟨w.heap.size, 3, none⟩ = some (.int .u64 a) := by rw [AH.out]; exact (c9 I2.1.of).2.2.2.1
      have hlt := I2.2.2.2.1.lt
      have K2 := Lib.hid I2
      clear I2
      have b1 := KP.out 5
      have b2 := KD.out 2
      have b3 := KC.out 2
      have b4 := KA.out 2
      rw [rounds_succ]
      go_wp2_with fail
      go_quiet (fail)
      go_wp2_with fail
      rw [show (p 5 + a * d 2 + C 2) % 65536 = r 5 from (KS.out 2).1, show (p 5 + a * d 2 + C 2) / 65536 = C 3 from (KS.out 2).2]
      clear b1 b2 b3 b4
      have I3 : At m n w (p 0) (p 1) (p 2) (r 3) (r 4) (r 5) (p 6) (p 7) (p 8) _ := At.put K2.out nq 5 (r 5) rfl
      clear c0 c1 c2 c3 c4 c5 c6 c7 c8 f0 f1 f2 f3 f4 f5 f6 f7 f8 a3 n0 n1 n2 n3 n4 n5 n6 n7 n8 hlt
      generalize ((W2.drewN nq).setCell ⟨w.heap.size + 3, 5, none⟩ (.int .u64 (r 5))) = W3 at I3 ⊢
      clear nq
      obtain ⟨n0, n1, n2, n3, n4, n5, n6, n7, n8, _, _, _, _, _, _, _, _, _⟩ := c9 (w := W3) (g := w.heap.size + 1) (t := 41) (by have h := I3.2.1; unfold Dk dcells at h; rw [← HD.out] at h; exact h)
      obtain ⟨c0, c1, c2, c3, c4, c5, c6, c7, c8, f0, f1, f2, f3, f4, f5, f6, f7, f8⟩ := c9 I3.2.2.2.1
      have a3 : W3.cell? ⟨w.heap.size, 3, none⟩ = some (.int .u64 a) := by rw [AH.out]; exact (c9 I3.1.of).2.2.2.1
      have hlt := I3.2.2.2.1.lt
      have K3 := Lib.hid I3
      clear I3
      have b1 := KP.out 6
      have b2 := KD.out 3
      have b3 := KC.out 3
      have b4 := KA.out 3
      rw [rounds_succ]
      go_wp2_with fail
      go_quiet (fail)
      go_wp2_with fail
      rw [show (p 6 + a * d 3 + C 3) % 65536 = r 6 from (KS.out 3).1, show (p 6 + a * d 3 + C 3) / 65536 = C 4 from (KS.out 3).2]
      clear b1 b2 b3 b4
      have I4 : At m n w (p 0) (p 1) (p 2) (r 3) (r 4) (r 5) (r 6) (p 7) (p 8) _ := At.put K3.out nq 6 (r 6) rfl
      clear c0 c1 c2 c3 c4 c5 c6 c7 c8 f0 f1 f2 f3 f4 f5 f6 f7 f8 a3 n0 n1 n2 n3 n4 n5 n6 n7 n8 hlt
      generalize ((W3.drewN nq).setCell ⟨w.heap.size + 3, 6, none⟩ (.int .u64 (r 6))) = W4 at I4 ⊢
      clear nq
      obtain ⟨n0, n1, n2, n3, n4, n5, n6, n7, n8, _, _, _, _, _, _, _, _, _⟩ := c9 (w := W4) (g := w.heap.size + 1) (t := 41) (by have h := I4.2.1; unfold Dk dcells at h; rw [← HD.out] at h; exact h)
      obtain ⟨c0, c1, c2, c3, c4, c5, c6, c7, c8, f0, f1, f2, f3, f4, f5, f6, f7, f8⟩ := c9 I4.2.2.2.1
      have a3 : W4.cell? ⟨w.heap.size, 3, none⟩ = some (.int .u64 a) := by rw [AH.out]; exact (c9 I4.1.of).2.2.2.1
      have hlt := I4.2.2.2.1.lt
      have K4 := Lib.hid I4
      clear I4
      have b1 := KP.out 7
      have b2 := KD.out 4
      have b3 := KC.out 4
      have b4 := KA.out 4
      rw [rounds_succ]
      go_wp2_with fail
      go_quiet (fail)
      go_wp2_with fail
      rw [show (p 7 + a * d 4 + C 4) % 65536 = r 7 from (KS.out 4).1, show (p 7 + a * d 4 + C 4) / 65536 = C 5 from (KS.out 4).2]
      clear b1 b2 b3 b4
      have I5 : At m n w (p 0) (p 1) (p 2) (r 3) (r 4) (r 5) (r 6) (r 7) (p 8) _ := At.put K4.out nq 7 (r 7) rfl
      clear c0 c1 c2 c3 c4 c5 c6 c7 c8 f0 f1 f2 f3 f4 f5 f6 f7 f8 a3 n0 n1 n2 n3 n4 n5 n6 n7 n8 hlt
      generalize ((W4.drewN nq).setCell ⟨w.heap.size + 3, 7, none⟩ (.int .u64 (r 7))) = W5 at I5 ⊢
      clear nq
      obtain ⟨n0, n1, n2, n3, n4, n5, n6, n7, n8, _, _, _, _, _, _, _, _, _⟩ := c9 (w := W5) (g := w.heap.size + 1) (t := 41) (by have h := I5.2.1; unfold Dk dcells at h; rw [← HD.out] at h; exact h)
      obtain ⟨c0, c1, c2, c3, c4, c5, c6, c7, c8, f0, f1, f2, f3, f4, f5, f6, f7, f8⟩ := c9 I5.2.2.2.1
      have a3 : W5.cell? ⟨w.heap.size, 3, none⟩ = some (.int .u64 a) := by rw [AH.out]; exact (c9 I5.1.of).2.2.2.1
      have hlt := I5.2.2.2.1.lt
      have K5 := Lib.hid I5
      clear I5
      have b1 := KP.out 8
      have b2 := KD.out 5
      have b3 := KC.out 5
      have b4 := KA.out 5
      rw [rounds_succ]
      go_wp2_with fail
      go_quiet (fail)
      go_wp2_with fail
      rw [show (p 8 + a * d 5 + C 5) % 65536 = r 8 from (KS.out 5).1, show (p 8 + a * d 5 + C 5) / 65536 = C 6 from (KS.out 5).2]
      clear b1 b2 b3 b4
      have I6 : At m n w (p 0) (p 1) (p 2) (r 3) (r 4) (r 5) (r 6) (r 7) (r 8) _ := At.put K5.out nq 8 (r 8) rfl
      clear c0 c1 c2 c3 c4 c5 c6 c7 c8 f0 f1 f2 f3 f4 f5 f6 f7 f8 a3 n0 n1 n2 n3 n4 n5 n6 n7 n8 hlt
      generalize ((W5.drewN nq).setCell ⟨w.heap.size + 3, 8, none⟩ (.int .u64 (r 8))) = W6 at I6 ⊢
      clear nq
      obtain ⟨n0, n1, n2, n3, n4, n5, n6, n7, n8, _, _, _, _, _, _, _, _, _⟩ := c9 (w := W6) (g := w.heap.size + 1) (t := 41) (by have h := I6.2.1; unfold Dk dcells at h; rw [← HD.out] at h; exact h)
      obtain ⟨c0, c1, c2, c3, c4, c5, c6, c7, c8, f0, f1, f2, f3, f4, f5, f6, f7, f8⟩ := c9 I6.2.2.2.1
      have a3 : W6.cell? ⟨w.heap.size, 3, none⟩ = some (.int .u64 a) := by rw [AH.out]; exact (c9 I6.1.of).2.2.2.1
      have hlt := I6.2.2.2.1.lt
      have K6 := Lib.hid I6
      clear I6
      rw [rounds_succ]
      go_wp2_with fail
      go_roundw
      case rel =>
        refine ⟨4, by omega, by go_num, K6.out.1, K6.out.2.1, K6.out.2.2.1, ?_, K6.out.2.2.2.2⟩
        have hh := K6.out.2.2.2.1
        have l0 := KL.out 0 (by omega)
        have l1 := KL.out 1 (by omega)
        have l2 := KL.out 2 (by omega)
        unfold Dk dcells
        rw [← show r = dg (WideA.part m n 4) from HR'.out]
        rw [l0, l1, l2]
        exact hh
      case measure => simp [intOf]
    · obtain ⟨a, p, r, d, C, ha, hp, hr, hd, hC0, hC, hpb, hdb, hab, haa, hst, hlow⟩ := row_law m n 4
      rw [← hp] at c0 c1 c2 c3 c4 c5 c6 c7 c8
      rw [← hd] at n0 n1 n2 n3 n4 n5 n6 n7 n8
      rw [← ha] at a4
      have HP := Lib.hid hp
      have HD := Lib.hid hd
      have AH := Lib.hid ha
      clear a0 a1 a2 a3 a5 a6 a7 a8
      have HR' := Lib.hid hr
      have KC := Lib.hid hC
      have KP := Lib.hid hpb
      have KD := Lib.hid hdb
      have KA := Lib.hid hab
      have KS := Lib.hid hst
      have KL := Lib.hid hlow
      have s0 : (p 4 + a * d 0) % 65536 = r 4 ∧ (p 4 + a * d 0) / 65536 = C 1 := by have h := hst 0; rw [hC0] at h; simpa using h
      have KS0 := Lib.hid s0
      clear s0 hp hr hd ha hC hpb hdb hab hst hlow hC0
      go_wp2_with fail
      refine wp_loop_rounds 6 ?_
      have I0 : At m n w (p 0) (p 1) (p 2) (p 3) (p 4) (p 5) (p 6) (p 7) (p 8) wr := ⟨HA.out, HB.out, HR.out, by have h := HC.out; unfold Dk dcells at h; rw [← HP.out] at h; exact h, HF.out⟩
      have K0 := Lib.hid I0
      clear I0
      have b1 := KP.out 4
      have b2 := KD.out 0
      have b3 := KC.out 0
      have b4 := KA.out 0
      rw [rounds_succ]
      go_wp2_with fail
      go_quiet (fail)
      go_wp2_with fail
      rw [KS0.out.1, KS0.out.2]
      clear b1 b2 b3 b4
      have I1 : At m n w (p 0) (p 1) (p 2) (p 3) (r 4) (p 5) (p 6) (p 7) (p 8) _ := At.put K0.out nq 4 (r 4) rfl
      clear c0 c1 c2 c3 c4 c5 c6 c7 c8 f0 f1 f2 f3 f4 f5 f6 f7 f8 a4 n0 n1 n2 n3 n4 n5 n6 n7 n8 hlt
      generalize ((wr.drewN nq).setCell ⟨w.heap.size + 3, 4, none⟩ (.int .u64 (r 4))) = W1 at I1 ⊢
      clear nq
      obtain ⟨n0, n1, n2, n3, n4, n5, n6, n7, n8, _, _, _, _, _, _, _, _, _⟩ := c9 (w := W1) (g := w.heap.size + 1) (t := 41) (by have h := I1.2.1; unfold Dk dcells at h; rw [← HD.out] at h; exact h)
      obtain ⟨c0, c1, c2, c3, c4, c5, c6, c7, c8, f0, f1, f2, f3, f4, f5, f6, f7, f8⟩ := c9 I1.2.2.2.1
      have a4 : W1.cell? ⟨w.heap.size, 4, none⟩ = some (.int .u64 a) := by rw [AH.out]; exact (c9 I1.1.of).2.2.2.2.1
      have hlt := I1.2.2.2.1.lt
      have K1 := Lib.hid I1
      clear I1
      have b1 := KP.out 5
      have b2 := KD.out 1
      have b3 := KC.out 1
      have b4 := KA.out 1
      rw [rounds_succ]
      go_wp2_with fail
      go_quiet (fail)
      go_wp2_with fail
      rw [show (p 5 + a * d 1 + C 1) % 65536 = r 5 from (KS.out 1).1, show (p 5 + a * d 1 + C 1) / 65536 = C 2 from (KS.out 1).2]
      clear b1 b2 b3 b4
      have I2 : At m n w (p 0) (p 1) (p 2) (p 3) (r 4) (r 5) (p 6) (p 7) (p 8) _ := At.put K1.out nq 5 (r 5) rfl
      clear c0 c1 c2 c3 c4 c5 c6 c7 c8 f0 f1 f2 f3 f4 f5 f6 f7 f8 a4 n0 n1 n2 n3 n4 n5 n6 n7 n8 hlt
      generalize ((W1.drewN nq).setCell ⟨w.heap.size + 3, 5, none⟩ (.int .u64 (r 5))) = W2 at I2 ⊢
      clear nq
      obtain ⟨n0, n1, n2, n3, n4, n5, n6, n7, n8, _, _, _, _, _, _, _, _, _⟩ := c9 (w := W2) (g := w.heap.size + 1) (t := 41) (by have h := I2.2.1; unfold Dk dcells at h; rw [← HD.out] at h; exact h)
      obtain ⟨c0, c1, c2, c3, c4, c5, c6, c7, c8, f0, f1, f2, f3, f4, f5, f6, f7, f8⟩ := c9 I2.2.2.2.1
      have a4 : W2.cell? ⟨w.heap.size, 4, none⟩ = some (.int .u64 a) := by rw [AH.out]; exact (c9 I2.1.of).2.2.2.2.1
      have hlt := I2.2.2.2.1.lt
      have K2 := Lib.hid I2
      clear I2
      have b1 := KP.out 6
      have b2 := KD.out 2
      have b3 := KC.out 2
      have b4 := KA.out 2
      rw [rounds_succ]
      go_wp2_with fail
      go_quiet (fail)
      go_wp2_with fail
      rw [show (p 6 + a * d 2 + C 2) % 65536 = r 6 from (KS.out 2).1, show (p 6 + a * d 2 + C 2) / 65536 = C 3 from (KS.out 2).2]
      clear b1 b2 b3 b4
      have I3 : At m n w (p 0) (p 1) (p 2) (p 3) (r 4) (r 5) (r 6) (p 7) (p 8) _ := At.put K2.out nq 6 (r 6) rfl
      clear c0 c1 c2 c3 c4 c5 c6 c7 c8 f0 f1 f2 f3 f4 f5 f6 f7 f8 a4 n0 n1 n2 n3 n4 n5 n6 n7 n8 hlt
      generalize ((W2.drewN nq).setCell ⟨w.heap.size + 3, 6, none⟩ (.int .u64 (r 6))) = W3 at I3 ⊢
      clear nq
      obtain ⟨n0, n1, n2, n3, n4, n5, n6, n7, n8, _, _, _, _, _, _, _, _, _⟩ := c9 (w := W3) (g := w.heap.size + 1) (t := 41) (by have h := I3.2.1; unfold Dk dcells at h; rw [← HD.out] at h; exact h)
      obtain ⟨c0, c1, c2, c3, c4, c5, c6, c7, c8, f0, f1, f2, f3, f4, f5, f6, f7, f8⟩ := c9 I3.2.2.2.1
      have a4 : W3.cell? ⟨w.heap.size, 4, none⟩ = some (.int .u64 a) := by rw [AH.out]; exact (c9 I3.1.of).2.2.2.2.1
      have hlt := I3.2.2.2.1.lt
      have K3 := Lib.hid I3
      clear I3
      have b1 := KP.out 7
      have b2 := KD.out 3
      have b3 := KC.out 3
      have b4 := KA.out 3
      rw [rounds_succ]
      go_wp2_with fail
      go_quiet (fail)
      go_wp2_with fail
      rw [show (p 7 + a * d 3 + C 3) % 65536 = r 7 from (KS.out 3).1, show (p 7 + a * d 3 + C 3) / 65536 = C 4 from (KS.out 3).2]
      clear b1 b2 b3 b4
      have I4 : At m n w (p 0) (p 1) (p 2) (p 3) (r 4) (r 5) (r 6) (r 7) (p 8) _ := At.put K3.out nq 7 (r 7) rfl
      clear c0 c1 c2 c3 c4 c5 c6 c7 c8 f0 f1 f2 f3 f4 f5 f6 f7 f8 a4 n0 n1 n2 n3 n4 n5 n6 n7 n8 hlt
      generalize ((W3.drewN nq).setCell ⟨w.heap.size + 3, 7, none⟩ (.int .u64 (r 7))) = W4 at I4 ⊢
      clear nq
      obtain ⟨n0, n1, n2, n3, n4, n5, n6, n7, n8, _, _, _, _, _, _, _, _, _⟩ := c9 (w := W4) (g := w.heap.size + 1) (t := 41) (by have h := I4.2.1; unfold Dk dcells at h; rw [← HD.out] at h; exact h)
      obtain ⟨c0, c1, c2, c3, c4, c5, c6, c7, c8, f0, f1, f2, f3, f4, f5, f6, f7, f8⟩ := c9 I4.2.2.2.1
      have a4 : W4.cell? ⟨w.heap.size, 4, none⟩ = some (.int .u64 a) := by rw [AH.out]; exact (c9 I4.1.of).2.2.2.2.1
      have hlt := I4.2.2.2.1.lt
      have K4 := Lib.hid I4
      clear I4
      have b1 := KP.out 8
      have b2 := KD.out 4
      have b3 := KC.out 4
      have b4 := KA.out 4
      rw [rounds_succ]
      go_wp2_with fail
      go_quiet (fail)
      go_wp2_with fail
      rw [show (p 8 + a * d 4 + C 4) % 65536 = r 8 from (KS.out 4).1, show (p 8 + a * d 4 + C 4) / 65536 = C 5 from (KS.out 4).2]
      clear b1 b2 b3 b4
      have I5 : At m n w (p 0) (p 1) (p 2) (p 3) (r 4) (r 5) (r 6) (r 7) (r 8) _ := At.put K4.out nq 8 (r 8) rfl
      clear c0 c1 c2 c3 c4 c5 c6 c7 c8 f0 f1 f2 f3 f4 f5 f6 f7 f8 a4 n0 n1 n2 n3 n4 n5 n6 n7 n8 hlt
      generalize ((W4.drewN nq).setCell ⟨w.heap.size + 3, 8, none⟩ (.int .u64 (r 8))) = W5 at I5 ⊢
      clear nq
      obtain ⟨n0, n1, n2, n3, n4, n5, n6, n7, n8, _, _, _, _, _, _, _, _, _⟩ := c9 (w := W5) (g := w.heap.size + 1) (t := 41) (by have h := I5.2.1; unfold Dk dcells at h; rw [← HD.out] at h; exact h)
      obtain ⟨c0, c1, c2, c3, c4, c5, c6, c7, c8, f0, f1, f2, f3, f4, f5, f6, f7, f8⟩ := c9 I5.2.2.2.1
      have a4 : W5.cell? ⟨w.heap.size, 4, none⟩ = some (.int .u64 a) := by rw [AH.out]; exact (c9 I5.1.of).2.2.2.2.1
      have hlt := I5.2.2.2.1.lt
      have K5 := Lib.hid I5
      clear I5
      rw [rounds_succ]
      go_wp2_with fail
      go_roundw
      case rel =>
        refine ⟨5, by omega, by go_num, K5.out.1, K5.out.2.1, K5.out.2.2.1, ?_, K5.out.2.2.2.2⟩
        have hh := K5.out.2.2.2.1
        have l0 := KL.out 0 (by omega)
        have l1 := KL.out 1 (by omega)
        have l2 := KL.out 2 (by omega)
        have l3 := KL.out 3 (by omega)
        unfold Dk dcells
        rw [← show r = dg (WideA.part m n 5) from HR'.out]
        rw [l0, l1, l2, l3]
        exact hh
      case measure => simp [intOf]
    · obtain ⟨a, p, r, d, C, ha, hp, hr, hd, hC0, hC, hpb, hdb, hab, haa, hst, hlow⟩ := row_law m n 5
      rw [← hp] at c0 c1 c2 c3 c4 c5 c6 c7 c8
      rw [← hd] at n0 n1 n2 n3 n4 n5 n6 n7 n8
      rw [← ha] at a5
      have HP := Lib.hid hp
      have HD := Lib.hid hd
      have AH := Lib.hid ha
      clear a0 a1 a2 a3 a4 a6 a7 a8
      have HR' := Lib.hid hr
      have KC := Lib.hid hC
      have KP := Lib.hid hpb
      have KD := Lib.hid hdb
      have KA := Lib.hid hab
      have KS := Lib.hid hst
      have KL := Lib.hid hlow
      have s0 : (p 5 + a * d 0) % 65536 = r 5 ∧ (p 5 + a * d 0) / 65536 = C 1 := by have h := hst 0; rw [hC0] at h; simpa using h
      have KS0 := Lib.hid s0
      clear s0 hp hr hd ha hC hpb hdb hab hst hlow hC0
      go_wp2_with fail
      refine wp_loop_rounds 5 ?_
      have I0 : At m n w (p 0) (p 1) (p 2) (p 3) (p 4) (p 5) (p 6) (p 7) (p 8) wr := ⟨HA.out, HB.out, HR.out, by have h := HC.out; unfold Dk dcells at h; rw [← HP.out] at h; exact h, HF.out⟩
      have K0 := Lib.hid I0
      clear I0
      have b1 := KP.out 5
      have b2 := KD.out 0
      have b3 := KC.out 0
      have b4 := KA.out 0
      rw [rounds_succ]
      go_wp2_with fail
      go_quiet (fail)
      go_wp2_with fail
      rw [KS0.out.1, KS0.out.2]
      clear b1 b2 b3 b4
      have I1 : At m n w (p 0) (p 1) (p 2) (p 3) (p 4) (r 5) (p 6) (p 7) (p 8) _ := At.put K0.out nq 5 (r 5) rfl
      clear c0 c1 c2 c3 c4 c5 c6 c7 c8 f0 f1 f2 f3 f4 f5 f6 f7 f8 a5 n0 n1 n2 n3 n4 n5 n6 n7 n8 hlt
      generalize ((wr.drewN nq).setCell ⟨w.heap.size + 3, 5, none⟩ (.int .u64 (r 5))) = W1 at I1 ⊢
      clear nq
      obtain ⟨n0, n1, n2, n3, n4, n5, n6, n7, n8, _, _, _, _, _, _, _, _, _⟩ := c9 (w := W1) (g := w.heap.size + 1) (t := 41) (by have h := I1.2.1; unfold Dk dcells at h; rw [← HD.out] at h; exact h)
      obtain ⟨c0, c1, c2, c3, c4, c5, c6, c7, c8, f0, f1, f2, f3, f4, f5, f6, f7, f8⟩ := c9 I1.2.2.2.1
      have a5 : W1.cell? ⟨w.heap.size, 5, none⟩ = some (.int .u64 a) := by rw [AH.out]; exact (c9 I1.1.of).2.2.2.2.2.1
      have hlt := I1.2.2.2.1.lt
      have K1 := Lib.hid I1
      clear I1
      have b1 := KP.out 6
      have b2 := KD.out 1
      have b3 := KC.out 1
      have b4 := KA.out 1
      rw [rounds_succ]
      go_wp2_with fail
      go_quiet (fail)
      go_wp2_with fail
      rw [show (p 6 + a * d 1 + C 1) % 65536 = r 6 from (KS.out 1).1, show (p 6 + a * d 1 + C 1) / 65536 = C 2 from (KS.out 1).2]
      clear b1 b2 b3 b4
      have I2 : At m n w (p 0) (p 1) (p 2) (p 3) (p 4) (r 5) (r 6) (p 7) (p 8) _ := At.put K1.out nq 6 (r 6) rfl
      clear c0 c1 c2 c3 c4 c5 c6 c7 c8 f0 f1 f2 f3 f4 f5 f6 f7 f8 a5 n0 n1 n2 n3 n4 n5 n6 n7 n8 hlt
      generalize ((W1.drewN nq).setCell ⟨w.heap.size + 3, 6, none⟩ (.int .u64 (r 6))) = W2 at I2 ⊢
      clear nq
      obtain ⟨n0, n1, n2, n3, n4, n5, n6, n7, n8, _, _, _, _, _, _, _, _, _⟩ := c9 (w := W2) (g := w.heap.size + 1) (t := 41) (by have h := I2.2.1; unfold Dk dcells at h; rw [← HD.out] at h; exact h)
      obtain ⟨c0, c1, c2, c3, c4, c5, c6, c7, c8, f0, f1, f2, f3, f4, f5, f6, f7, f8⟩ := c9 I2.2.2.2.1
      have a5 : W2.cell? ⟨w.heap.size, 5, none⟩ = some (.int .u64 a) := by rw [AH.out]; exact (c9 I2.1.of).2.2.2.2.2.1
      have hlt := I2.2.2.2.1.lt
      have K2 := Lib.hid I2
      clear I2
      have b1 := KP.out 7
      have b2 := KD.out 2
      have b3 := KC.out 2
      have b4 := KA.out 2
      rw [rounds_succ]
      go_wp2_with fail
      go_quiet (fail)
      go_wp2_with fail
      rw [show (p 7 + a * d 2 + C 2) % 65536 = r 7 from (KS.out 2).1, show (p 7 + a * d 2 + C 2) / 65536 = C 3 from (KS.out 2).2]
      clear b1 b2 b3 b4
      have I3 : At m n w (p 0) (p 1) (p 2) (p 3) (p 4) (r 5) (r 6) (r 7) (p 8) _ := At.put K2.out nq 7 (r 7) rfl
      clear c0 c1 c2 c3 c4 c5 c6 c7 c8 f0 f1 f2 f3 f4 f5 f6 f7 f8 a5 n0 n1 n2 n3 n4 n5 n6 n7 n8 hlt
      generalize ((W2.drewN nq).setCell ⟨w.heap.size + 3, 7, none⟩ (.int .u64 (r 7))) = W3 at I3 ⊢
      clear nq
      obtain ⟨n0, n1, n2, n3, n4, n5, n6, n7, n8, _, _, _, _, _, _, _, _, _⟩ := c9 (w := W3) (g := w.heap.size + 1) (t := 41) (by have h := I3.2.1; unfold Dk dcells at h; rw [← HD.out] at h; exact h)
      obtain ⟨c0, c1, c2, c3, c4, c5, c6, c7, c8, f0, f1, f2, f3, f4, f5, f6, f7, f8⟩ := c9 I3.2.2.2.1
      have a5 : W3.cell? ⟨w.heap.size, 5, none⟩ = some (.int .u64 a) := by rw [AH.out]; exact (c9 I3.1.of).2.2.2.2.2.1
      have hlt := I3.2.2.2.1.lt
      have K3 := Lib.hid I3
      clear I3
      have b1 := KP.out 8
      have b2 := KD.out 3
      have b3 := KC.out 3
      have b4 := KA.out 3
      rw [rounds_succ]
      go_wp2_with fail
      go_quiet (fail)
      go_wp2_with fail
      rw [show (p 8 + a * d 3 + C 3) % 65536 = r 8 from (KS.out 3).1, show (p 8 + a * d 3 + C 3) / 65536 = C 4 from (KS.out 3).2]
      clear b1 b2 b3 b4
      have I4 : At m n w (p 0) (p 1) (p 2) (p 3) (p 4) (r 5) (r 6) (r 7) (r 8) _ := At.put K3.out nq 8 (r 8) rfl
      clear c0 c1 c2 c3 c4 c5 c6 c7 c8 f0 f1 f2 f3 f4 f5 f6 f7 f8 a5 n0 n1 n2 n3 n4 n5 n6 n7 n8 hlt
      generalize ((W3.drewN nq).setCell ⟨w.heap.size + 3, 8, none⟩ (.int .u64 (r 8))) = W4 at I4 ⊢
      clear nq
      obtain ⟨n0, n1, n2, n3, n4, n5, n6, n7, n8, _, _, _, _, _, _, _, _, _⟩ := c9 (w := W4) (g := w.heap.size + 1) (t := 41) (by have h := I4.2.1; unfold Dk dcells at h; rw [← HD.out] at h; exact h)
      obtain ⟨c0, c1, c2, c3, c4, c5, c6, c7, c8, f0, f1, f2, f3, f4, f5, f6, f7, f8⟩ := c9 I4.2.2.2.1
      have a5 : W4.cell? ⟨w.heap.size, 5, none⟩ = some (.int .u64 a) := by rw [AH.out]; exact (c9 I4.1.of).2.2.2.2.2.1
      have hlt := I4.2.2.2.1.lt
      have K4 := Lib.hid I4
      clear I4
      rw [rounds_succ]
      go_wp2_with fail
      go_roundw
      case rel =>
        refine ⟨6, by omega, by go_num, K4.out.1, K4.out.2.1, K4.out.2.2.1, ?_, K4.out.2.2.2.2⟩
        have hh := K4.out.2.2.2.1
        have l0 := KL.out 0 (by omega)
        have l1 := KL.out 1 (by omega)
        have l2 := KL.out 2 (by omega)
        have l3 := KL.out 3 (by omega)
        have l4 := KL.out 4 (by omega)
        unfold Dk dcells
        rw [← show r = dg (WideA.part m n 6) from HR'.out]
        rw [l0, l1, l2, l3, l4]
        exact hh
      case measure => simp [intOf]
    · obtain ⟨a, p, r, d, C, ha, hp, hr, hd, hC0, hC, hpb, hdb, hab, haa, hst, hlow⟩ := row_law m n 6
      rw [← hp] at c0 c1 c2 c3 c4 c5 c6 c7 c8
      rw [← hd] at n0 n1 n2 n3 n4 n5 n6 n7 n8
      rw [← ha] at a6
      have HP := Lib.hid hp
      have HD := Lib.hid hd
      have AH := Lib.hid ha
      clear a0 a1 a2 a3 a4 a5 a7 a8
      have HR' := Lib.hid hr
      have KC := Lib.hid hC
      have KP := Lib.hid hpb
      have KD := Lib.hid hdb
      have KA := Lib.hid hab
      have KS := Lib.hid hst
      have KL := Lib.hid hlow
      have s0 : (p 6 + a * d 0) % 65536 = r 6 ∧ (p 6 + a * d 0) / 65536 = C 1 := by have h := hst 0; rw [hC0] at h; simpa using h
      have KS0 := Lib.hid s0
      clear s0 hp hr hd ha hC hpb hdb hab hst hlow hC0
      go_wp2_with fail
      refine wp_loop_rounds 4 ?_
      have I0 : At m n w (p 0) (p 1) (p 2) (p 3) (p 4) (p 5) (p 6) (p 7) (p 8) wr := ⟨HA.out, HB.out, HR.out, by have h := HC.out; unfold Dk dcells at h; rw [← HP.out] at h; exact h, HF.out⟩
      have K0 := Lib.hid I0
      clear I0
      have b1 := KP.out 6
      have b2 := KD.out 0
      have b3 := KC.out 0
      have b4 := KA.out 0
      rw [rounds_succ]
      go_wp2_with fail
      go_quiet (fail)
      go_wp2_with fail
      rw [KS0.out.1, KS0.out.2]
      clear b1 b2 b3 b4
      have I1 : At m n w (p 0) (p 1) (p 2) (p 3) (p 4) (p 5) (r 6) (p 7) (p 8) _ := At.put K0.out nq 6 (r 6) rfl
      clear c0 c1 c2 c3 c4 c5 c6 c7 c8 f0 f1 f2 f3 f4 f5 f6 f7 f8 a6 n0 n1 n2 n3 n4 n5 n6 n7 n8 hlt
      generalize ((wr.drewN nq).setCell ⟨w.heap.size + 3, 6, none⟩ (.int .u64 (r 6))) = W1 at I1 ⊢
      clear nq
      obtain ⟨n0, n1, n2, n3, n4, n5, n6, n7, n8, _, _, _, _, _, _, _, _, _⟩ := c9 (w := W1) (g := w.heap.size + 1) (t := 41) (by have h := I1.2.1; unfold Dk dcells at h; rw [← HD.out] at h; exact h)
      obtain ⟨c0, c1, c2, c3, c4, c5, c6, c7, c8, f0, f1, f2, f3, f4, f5, f6, f7, f8⟩ := c9 I1.2.2.2.1
      have a6 : W1.cell? ⟨w.heap.size, 6, none⟩ = some (.int .u64 a) := by rw [AH.out]; exact (c9 I1.1.of).2.2.2.2.2.2.1
      have hlt := I1.2.2.2.1.lt
      have K1 := Lib.hid I1
      clear I1
      have b1 := KP.out 7
      have b2 := KD.out 1
      have b3 := KC.out 1
      have b4 := KA.out 1
      rw [rounds_succ]
      go_wp2_with fail
      go_quiet (fail)
      go_wp2_with fail
      rw [show (p 7 + a * d 1 + C 1) % 65536 = r 7 from (KS.out 1).1, show (p 7 + a * d 1 + C 1) / 65536 = C 2 from (KS.out 1).2]
      clear b1 b2 b3 b4
      have I2 : At m n w (p 0) (p 1) (p 2) (p 3) (p 4) (p 5) (r 6) (r 7) (p 8) _ := At.put K1.out nq 7 (r 7) rfl
      clear c0 c1 c2 c3 c4 c5 c6 c7 c8 f0 f1 f2 f3 f4 f5 f6 f7 f8 a6 n0 n1 n2 n3 n4 n5 n6 n7 n8 hlt
      generalize ((W1.drewN nq).setCell ⟨w.heap.size + 3, 7, none⟩ (.int .u64 (r 7))) = W2 at I2 ⊢
      clear nq
      obtain ⟨n0, n1, n2, n3, n4, n5, n6, n7, n8, _, _, _, _, _, _, _, _, _⟩ := c9 (w := W2) (g := w.heap.size + 1) (t := 41) (by have h := I2.2.1; unfold Dk dcells at h; rw [← HD.out] at h; exact h)
      obtain ⟨c0, c1, c2, c3, c4, c5, c6, c7, c8, f0, f1, f2, f3, f4, f5, f6, f7, f8⟩ := c9 I2.2.2.2.1
      have a6 : W2.cell? ⟨w.heap.size, 6, none⟩ = some (.int .u64 a) := by rw [AH.out]; exact (c9 I2.1.of).2.2.2.2.2.2.1
      have hlt := I2.2.2.2.1.lt
      have K2 := Lib.hid I2
      clear I2
      have b1 := KP.out 8
      have b2 := KD.out 2
      have b3 := KC.out 2
      have b4 := KA.out 2
      rw [rounds_succ]
      go_wp2_with fail
      go_quiet (fail)
      go_wp2_with fail
      rw [show (p 8 + a * d 2 + C 2) % 65536 = r 8 from (KS.out 2).1, show (p 8 + a * d 2 + C 2) / 65536 = C 3 from (KS.out 2).2]
      clear b1 b2 b3 b4
      have I3 : At m n w (p 0) (p 1) (p 2) (p 3) (p 4) (p 5) (r 6) (r 7) (r 8) _ := At.put K2.out nq 8 (r 8) rfl
      clear c0 c1 c2 c3 c4 c5 c6 c7 c8 f0 f1 f2 f3 f4 f5 f6 f7 f8 a6 n0 n1 n2 n3 n4 n5 n6 n7 n8 hlt
      generalize ((W2.drewN nq).setCell ⟨w.heap.size + 3, 8, none⟩ (.int .u64 (r 8))) = W3 at I3 ⊢
      clear nq
      obtain ⟨n0, n1, n2, n3, n4, n5, n6, n7, n8, _, _, _, _, _, _, _, _, _⟩ := c9 (w := W3) (g := w.heap.size + 1) (t := 41) (by have h := I3.2.1; unfold Dk dcells at h; rw [← HD.out] at h; exact h)
      obtain ⟨c0, c1, c2, c3, c4, c5, c6, c7, c8, f0, f1, f2, f3, f4, f5, f6, f7, f8⟩ := c9 I3.2.2.2.1
      have a6 : W3.cell? ⟨w.heap.size, 6, none⟩ = some (.int .u64 a) := by rw [AH.out]; exact (c9 I3.1.of).2.2.2.2.2.2.1
      have hlt := I3.2.2.2.1.lt
      have K3 := Lib.hid I3
      clear I3
      rw [rounds_succ]
      go_wp2_with fail
      go_roundw
      case rel =>
        refine ⟨7, by omega, by go_num, K3.out.1, K3.out.2.1, K3.out.2.2.1, ?_, K3.out.2.2.2.2⟩
        have hh := K3.out.2.2.2.1
        have l0 := KL.out 0 (by omega)
        have l1 := KL.out 1 (by omega)
        have l2 := KL.out 2 (by omega)
        have l3 := KL.out 3 (by omega)
        have l4 := KL.out 4 (by omega)
        have l5 := KL.out 5 (by omega)
        unfold Dk dcells
        rw [← show r = dg (WideA.part m n 7) from HR'.out]
        rw [l0, l1, l2, l3, l4, l5]
        exact hh
      case measure => simp [intOf]
    · obtain ⟨a, p, r, d, C, ha, hp, hr, hd, hC0, hC, hpb, hdb, hab, haa, hst, hlow⟩ := row_law m n 7
      rw [← hp] at c0 c1 c2 c3 c4 c5 c6 c7 c8
      rw [← hd] at n0 n1 n2 n3 n4 n5 n6 n7 n8
      rw [← ha] at a7
      have HP := Lib.hid hp
      have HD := Lib.hid hd
      have AH := Lib.hid ha
      clear a0 a1 a2 a3 a4 a5 a6 a8
      have HR' := Lib.hid hr
      have KC := Lib.hid hC
      have KP := Lib.hid hpb
      have KD := Lib.hid hdb
      have KA := Lib.hid hab
      have KS := Lib.hid hst
      have KL := Lib.hid hlow
      have s0 : (p 7 + a * d 0) % 65536 = r 7 ∧ (p 7 + a * d 0) / 65536 = C 1 := by have h := hst 0; rw [hC0] at h; simpa using h
      have KS0 := Lib.hid s0
      clear s0 hp hr hd ha hC hpb hdb hab hst hlow hC0
      go_wp2_with fail
      refine wp_loop_rounds 3 ?_
      have I0 : At m n w (p 0) (p 1) (p 2) (p 3) (p 4) (p 5) (p 6) (p 7) (p 8) wr := ⟨HA.out, HB.out, HR.out, by have h := HC.out; unfold Dk dcells at h; rw [← HP.out] at h; exact h, HF.out⟩
      have K0 := Lib.hid I0
      clear I0
      have b1 := KP.out 7
      have b2 := KD.out 0
      have b3 := KC.out 0
      have b4 := KA.out 0
      rw [rounds_succ]
      go_wp2_with fail
      go_quiet (fail)
      go_wp2_with fail
      rw [KS0.out.1, KS0.out.2]
      clear b1 b2 b3 b4
      have I1 : At m n w (p 0) (p 1) (p 2) (p 3) (p 4) (p 5) (p 6) (r 7) (p 8) _ := At.put K0.out nq 7 (r 7) rfl
      clear c0 c1 c2 c3 c4 c5 c6 c7 c8 f0 f1 f2 f3 f4 f5 f6 f7 f8 a7 n0 n1 n2 n3 n4 n5 n6 n7 n8 hlt
      generalize ((wr.drewN nq).setCell ⟨w.heap.size + 3, 7, none⟩ (.int .u64 (r 7))) = W1 at I1 ⊢
      clear nq
      obtain ⟨n0, n1, n2, n3, n4, n5, n6, n7, n8, _, _, _, _, _, _, _, _, _⟩ := c9 (w := W1) (g := w.heap.size + 1) (t := 41) (by have h := I1.2.1; unfold Dk dcells at h; rw [← HD.out] at h; exact h)
      obtain ⟨c0, c1, c2, c3, c4, c5, c6, c7, c8, f0, f1, f2, f3, f4, f5, f6, f7, f8⟩ := c9 I1.2.2.2.1
      have a7 : W1.cell? ⟨w.heap.size, 7, none⟩ = some (.int .u64 a) := by rw [AH.out]; exact (c9 I1.1.of).2.2.2.2.2.2.2.1
      have hlt := I1.2.2.2.1.lt
      have K1 := Lib.hid I1
      clear I1
      have b1 := KP.out 8
      have b2 := KD.out 1
      have b3 := KC.out 1
      have b4 := KA.out 1
      rw [rounds_succ]
      go_wp2_with fail
      go_quiet (fail)
      go_wp2_with fail
      rw [show (p 8 + a * d 1 + C 1) % 65536 = r 8 from (KS.out 1).1, show (p 8 + a * d 1 + C 1) / 65536 = C 2 from (KS.out 1).2]
      clear b1 b2 b3 b4
      have I2 : At m n w (p 0) (p 1) (p 2) (p 3) (p 4) (p 5) (p 6) (r 7) (r 8) _ := At.put K1.out nq 8 (r 8) rfl
      clear c0 c1 c2 c3 c4 c5 c6 c7 c8 f0 f1 f2 f3 f4 f5 f6 f7 f8 a7 n0 n1 n2 n3 n4 n5 n6 n7 n8 hlt
      generalize ((W1.drewN nq).setCell ⟨w.heap.size + 3, 8, none⟩ (.int .u64 (r 8))) = W2 at I2 ⊢
      clear nq
      obtain ⟨n0, n1, n2, n3, n4, n5, n6, n7, n8, _, _, _, _, _, _, _, _, _⟩ := c9 (w := W2) (g := w.heap.size + 1) (t := 41) (by have h := I2.2.1; unfold Dk dcells at h; rw [← HD.out] at h; exact h)
      obtain ⟨c0, c1, c2, c3, c4, c5, c6, c7, c8, f0, f1, f2, f3, f4, f5, f6, f7, f8⟩ := c9 I2.2.2.2.1
      have a7 : W2.cell? ⟨w.heap.size, 7, none⟩ = some (.int .u64 a) := by rw [AH.out]; exact (c9 I2.1.of).2.2.2.2.2.2.2.1
      have hlt := I2.2.2.2.1.lt
      have K2 := Lib.hid I2
      clear I2
      rw [rounds_succ]
      go_wp2_with fail
      go_roundw
      case rel =>
        refine ⟨8, by omega, by go_num, K2.out.1, K2.out.2.1, K2.out.2.2.1, ?_, K2.out.2.2.2.2⟩
        have hh := K2.out.2.2.2.1
        have l0 := KL.out 0 (by omega)
        have l1 := KL.out 1 (by omega)
        have l2 := KL.out 2 (by omega)
        have l3 := KL.out 3 (by omega)
        have l4 := KL.out 4 (by omega)
        have l5 := KL.out 5 (by omega)
        have l6 := KL.out 6 (by omega)
        unfold Dk dcells
        rw [← show r = dg (WideA.part m n 8) from HR'.out]
        rw [l0, l1, l2, l3, l4, l5, l6]
        exact hh
      case measure => simp [intOf]
    · obtain ⟨a, p, r, d, C, ha, hp, hr, hd, hC0, hC, hpb, hdb, hab, haa, hst, hlow⟩ := row_law m n 8
      rw [← hp] at c0 c1 c2 c3 c4 c5 c6 c7 c8
      rw [← hd] at n0 n1 n2 n3 n4 n5 n6 n7 n8
      rw [← ha] at a8
      have HP := Lib.hid hp
      have HD := Lib.hid hd
      have AH := Lib.hid ha
      clear a0 a1 a2 a3 a4 a5 a6 a7
      have HR' := Lib.hid hr
      have KC := Lib.hid hC
      have KP := Lib.hid hpb
      have KD := Lib.hid hdb
      have KA := Lib.hid hab
      have KS := Lib.hid hst
      have KL := Lib.hid hlow
      have s0 : (p 8 + a * d 0) % 65536 = r 8 ∧ (p 8 + a * d 0) / 65536 = C 1 := by have h := hst 0; rw [hC0] at h; simpa using h
      have KS0 := Lib.hid s0
      clear s0 hp hr hd ha hC hpb hdb hab hst hlow hC0
      go_wp2_with fail
      refine wp_loop_rounds 2 ?_
      have I0 : At m n w (p 0) (p 1) (p 2) (p 3) (p 4) (p 5) (p 6) (p 7) (p 8) wr := ⟨HA.out, HB.out, HR.out, by have h := HC.out; unfold Dk dcells at h; rw [← HP.out] at h; exact h, HF.out⟩
      have K0 := Lib.hid I0
      clear I0
      have b1 := KP.out 8
      have b2 := KD.out 0
      have b3 := KC.out 0
      have b4 := KA.out 0
      rw [rounds_succ]
      go_wp2_with fail
      go_quiet (fail)
      go_wp2_with fail
      rw [KS0.out.1, KS0.out.2]
      clear b1 b2 b3 b4
      have I1 : At m n w (p 0) (p 1) (p 2) (p 3) (p 4) (p 5) (p 6) (p 7) (r 8) _ := At.put K0.out nq 8 (r 8) rfl
      clear c0 c1 c2 c3 c4 c5 c6 c7 c8 f0 f1 f2 f3 f4 f5 f6 f7 f8 a8 n0 n1 n2 n3 n4 n5 n6 n7 n8 hlt
      generalize ((wr.drewN nq).setCell ⟨w.heap.size + 3, 8, none⟩ (.int .u64 (r 8))) = W1 at I1 ⊢
      clear nq
      obtain ⟨n0, n1, n2, n3, n4, n5, n6, n7, n8, _, _, _, _, _, _, _, _, _⟩ := c9 (w := W1) (g := w.heap.size + 1) (t := 41) (by have h := I1.2.1; unfold Dk dcells at h; rw [← HD.out] at h; exact h)
      obtain ⟨c0, c1, c2, c3, c4, c5, c6, c7, c8, f0, f1, f2, f3, f4, f5, f6, f7, f8⟩ := c9 I1.2.2.2.1
      have a8 : W1.cell? ⟨w.heap.size, 8, none⟩ = some (.int .u64 a) := by rw [AH.out]; exact (c9 I1.1.of).2.2.2.2.2.2.2.2.1
      have hlt := I1.2.2.2.1.lt
      have K1 := Lib.hid I1
      clear I1
      rw [rounds_succ]
      go_wp2_with fail
      go_roundw
      case rel =>
        refine ⟨9, by omega, by go_num, K1.out.1, K1.out.2.1, K1.out.2.2.1, ?_, K1.out.2.2.2.2⟩
        have hh := K1.out.2.2.2.1
        have l0 := KL.out 0 (by omega)
        have l1 := KL.out 1 (by omega)
        have l2 := KL.out 2 (by omega)
        have l3 := KL.out 3 (by omega)
        have l4 := KL.out 4 (by omega)
        have l5 := KL.out 5 (by omega)
        have l6 := KL.out 6 (by omega)
        have l7 := KL.out 7 (by omega)
        unfold Dk dcells
        rw [← show r = dg (WideA.part m n 9) from HR'.out]
        rw [l0, l1, l2, l3, l4, l5, l6, l7]
        exact hh
      case measure => simp [intOf]
    · obtain ⟨r0, r1, r2, r3, r4, r5, r6, r7, r8, s0, s1, s2, s3, s4, s5, s6, s7, s8⟩ := c9 HR.out
      have hlr := HR.out.lt
      have e0 := dg_part m n 0 (by omega)
      have e1 := dg_part m n 1 (by omega)
      have e2 := dg_part m n 2 (by omega)
      have e3 := dg_part m n 3 (by omega)
      have e4 := dg_part m n 4 (by omega)
      have e5 := dg_part m n 5 (by omega)
      have e6 := dg_part m n 6 (by omega)
      have e7 := dg_part m n 7 (by omega)
      have e8 := dg_part m n 8 (by omega)
      rw [e0] at c0
      rw [e1] at c1
      rw [e2] at c2
      rw [e3] at c3
      rw [e4] at c4
      rw [e5] at c5
      rw [e6] at c6
      rw [e7] at c7
      rw [e8] at c8
      clear e0 e1 e2 e3 e4 e5 e6 e7 e8
      go_wp2_with fail
      refine bodyPost_ret (v := .agg (dcells (m * n))) ?_ rfl ⟨rfl, ?_⟩
      · unfold dcells
        simp [results, Try.results44, go_sem, r0, r1, r2, r3, r4, r5, r6, r7, r8]
      · have hh := HF.out
        (repeat' (with_reducible first | exact hh | refine Fr.setCell ?_ (fun hlt => absurd hlt (by dsimp only; omega)) _ | refine Fr.alloc ?_ _ | refine Fr.drewN ?_ _ | refine Fr.drew ?_))
end Go.Proofs.Ytalbaopfdejooaa.WideR
