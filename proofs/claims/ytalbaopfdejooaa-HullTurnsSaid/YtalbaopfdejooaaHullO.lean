/- Chapter 41: the reference's within. -/
import Derived.Test.YtalbaopfdejooaaHullN
namespace Go.Proofs.Ytalbaopfdejooaa.HullO
open Go.RowKit Base Slices RowsA KernA KernE AreaA HullD HullE HullF HullG HullH HullI HullJ HullM HullN Quiet
open HullA (lt at_ D)
set_option linter.unusedVariables false
set_option linter.unusedSimpArgs false

def wiB (a b c p : Pn) : Bool := decide (tD a b c ≠ 0 ∧ 0 ≤ tD a b p * tD a b c ∧ 0 ≤ tD b c p * tD a b c ∧ 0 ≤ tD c a p * tD a b c)
theorem tD_3 (a b c : Pn) : tD a b c = -1 ∨ tD a b c = 0 ∨ tD a b c = 1 := by
  have := tz_bd a.2.1 a.2.2 b.2.1 b.2.2 c.2.1 c.2.2
  unfold tD
  omega
theorem cell_fr {W W' : World} {x : Addr} {v : Value} (h : W.cell? x = some v) (hf : Fr Nil W W') : W'.cell? x = some v := (hf.cell (World.block_lt_of_cell? W x h) id).trans h
theorem cell_q {W : World} {x : Addr} {v : Value} (h : W.cell? x = some v) (p : FrW Nil W) : p.val.cell? x = some v := cell_fr h p.fr

set_option maxRecDepth 100000 in
set_option maxHeartbeats 16000000 in
theorem within_any (a b c p : Pn) (w : World) : Calls Try.prog 59 #[.agg #[.int .i64 a.1, .int .i64 a.2.1, .int .i64 a.2.2], .agg #[.int .i64 b.1, .int .i64 b.2.1, .int .i64 b.2.2], .agg #[.int .i64 c.1, .int .i64 c.2.1, .int .i64 c.2.2], .agg #[.int .i64 p.1, .int .i64 p.2.1, .int .i64 p.2.2]] w fun e w' => e = .returned (.bool (wiB a b c p)) ∧ Fr Nil w w' := by
  obtain ⟨r, hr⟩ : ∃ r, wiB a b c p = r := ⟨_, rfl⟩
  rw [hr]
  unfold wiB at hr
  have K0 := fun W => rturn_any a b c W
  have K1 := fun W => rturn_any a b p W
  have K2 := fun W => rturn_any b c p W
  have K3 := fun W => rturn_any c a p W
  have t0 := tD_3 a b c
  have t1 := tD_3 a b p
  have t2 := tD_3 b c p
  have t3 := tD_3 c a p
  generalize tD a b c = z0 at *
  generalize tD a b p = z1 at *
  generalize tD b c p = z2 at *
  generalize tD c a p = z3 at *
  have HR := Lib.hid hr
  have T0 := Lib.hid t0
  have T1 := Lib.hid t1
  have T2 := Lib.hid t2
  have T3 := Lib.hid t3
  replace K0 := Lib.hid K0
  replace K1 := Lib.hid K1
  replace K2 := Lib.hid K2
  replace K3 := Lib.hid K3
  clear hr t0 t1 t2 t3
  go_enter Try.func59, Try.ntmps59
  go_wp2_with fail
  refine (K0.out _).mono ?_
  rintro e w1 ⟨rfl, hf⟩
  have g0 : Fr Nil w w1 := Fr.trans (b := ((((w.alloc (.cells #[.int .i64 a.1, .int .i64 a.2.1, .int .i64 a.2.2] 34)).alloc (.cells #[.int .i64 b.1, .int .i64 b.2.1, .int .i64 b.2.2] 34)).alloc (.cells #[.int .i64 c.1, .int .i64 c.2.1, .int .i64 c.2.2] 34)).alloc (.cells #[.int .i64 p.1, .int .i64 p.2.1, .int .i64 p.2.2] 34))) (by (repeat' (with_reducible first | refine Fr.setCell ?_ (fun hlt => absurd hlt (by dsimp only; omega)) _ | refine Fr.alloc ?_ _ | refine Fr.drewN ?_ _ | refine Fr.drew ?_ | exact Fr.refl _ _))) hf
  have bk0 := ((Bk.new w 34 #[.int .i64 a.1, .int .i64 a.2.1, .int .i64 a.2.2]).fr ((((Fr.refl Nil _).alloc _).alloc _).alloc _) id).fr hf id
  have c0 : w1.cell? ⟨w.heap.size, 0, none⟩ = some (.int .i64 a.1) := by have h := bk0.cell 0; simpa using h
  have c1 : w1.cell? ⟨w.heap.size, 1, none⟩ = some (.int .i64 a.2.1) := by have h := bk0.cell 1; simpa using h
  have c2 : w1.cell? ⟨w.heap.size, 2, none⟩ = some (.int .i64 a.2.2) := by have h := bk0.cell 2; simpa using h
  have bk1 := ((Bk.new (w.alloc (.cells #[.int .i64 a.1, .int .i64 a.2.1, .int .i64 a.2.2] 34)) 34 #[.int .i64 b.1, .int .i64 b.2.1, .int .i64 b.2.2]).fr (((Fr.refl Nil _).alloc _).alloc _) id).fr hf id
  have c3 : w1.cell? ⟨w.heap.size + 1, 0, none⟩ = some (.int .i64 b.1) := by have h := bk1.cell 0; simpa using h
  have c4 : w1.cell? ⟨w.heap.size + 1, 1, none⟩ = some (.int .i64 b.2.1) := by have h := bk1.cell 1; simpa using h
  have c5 : w1.cell? ⟨w.heap.size + 1, 2, none⟩ = some (.int .i64 b.2.2) := by have h := bk1.cell 2; simpa using h
  have bk2 := ((Bk.new ((w.alloc (.cells #[.int .i64 a.1, .int .i64 a.2.1, .int .i64 a.2.2] 34)).alloc (.cells #[.int .i64 b.1, .int .i64 b.2.1, .int .i64 b.2.2] 34)) 34 #[.int .i64 c.1, .int .i64 c.2.1, .int .i64 c.2.2]).fr ((Fr.refl Nil _).alloc _) id).fr hf id
  have c6 : w1.cell? ⟨w.heap.size + 1 + 1, 0, none⟩ = some (.int .i64 c.1) := by have h := bk2.cell 0; simpa using h
  have c7 : w1.cell? ⟨w.heap.size + 1 + 1, 1, none⟩ = some (.int .i64 c.2.1) := by have h := bk2.cell 1; simpa using h
  have c8 : w1.cell? ⟨w.heap.size + 1 + 1, 2, none⟩ = some (.int .i64 c.2.2) := by have h := bk2.cell 2; simpa using h
  have bk3 := ((Bk.new (((w.alloc (.cells #[.int .i64 a.1, .int .i64 a.2.1, .int .i64 a.2.2] 34)).alloc (.cells #[.int .i64 b.1, .int .i64 b.2.1, .int .i64 b.2.2] 34)).alloc (.cells #[.int .i64 c.1, .int .i64 c.2.1, .int .i64 c.2.2] 34)) 34 #[.int .i64 p.1, .int .i64 p.2.1, .int .i64 p.2.2]).fr (Fr.refl Nil _) id).fr hf id
  have c9 : w1.cell? ⟨w.heap.size + 1 + 1 + 1, 0, none⟩ = some (.int .i64 p.1) := by have h := bk3.cell 0; simpa using h
  have c10 : w1.cell? ⟨w.heap.size + 1 + 1 + 1, 1, none⟩ = some (.int .i64 p.2.1) := by have h := bk3.cell 1; simpa using h
  have c11 : w1.cell? ⟨w.heap.size + 1 + 1 + 1, 2, none⟩ = some (.int .i64 p.2.2) := by have h := bk3.cell 2; simpa using h
  clear bk0 bk1 bk2 bk3
  have G0 := Lib.hid g0
  clear hf g0 K0
  rcases T0.out with rfl | rfl | rfl
  case inr.inl =>
    go_wp2_with fail
    go_ret
    exact ⟨by rw [← HR.out]; first | rfl | decide, G0.out⟩
  all_goals
    go_wp2_with fail
    (with_reducible refine (K1.out _).mono ?_); rintro e w2 ⟨rfl, hf⟩; replace c0 := cell_fr c0 hf; replace c1 := cell_fr c1 hf; replace c2 := cell_fr c2 hf; replace c3 := cell_fr c3 hf; replace c4 := cell_fr c4 hf; replace c5 := cell_fr c5 hf; replace c6 := cell_fr c6 hf; replace c7 := cell_fr c7 hf; replace c8 := cell_fr c8 hf; replace c9 := cell_fr c9 hf; replace c10 := cell_fr c10 hf; replace c11 := cell_fr c11 hf; replace G0 := Lib.hid (G0.out.trans hf); clear hf
    rcases T1.out with rfl | rfl | rfl
    all_goals
      go_wp2_with fail
      first
      | (go_ret; exact ⟨by rw [← HR.out]; first | rfl | decide, G0.out⟩)
      | ((with_reducible refine (K2.out _).mono ?_); rintro e w2 ⟨rfl, hf⟩; replace c0 := cell_fr c0 hf; replace c1 := cell_fr c1 hf; replace c2 := cell_fr c2 hf; replace c3 := cell_fr c3 hf; replace c4 := cell_fr c4 hf; replace c5 := cell_fr c5 hf; replace c6 := cell_fr c6 hf; replace c7 := cell_fr c7 hf; replace c8 := cell_fr c8 hf; replace c9 := cell_fr c9 hf; replace c10 := cell_fr c10 hf; replace c11 := cell_fr c11 hf; replace G0 := Lib.hid (G0.out.trans hf); clear hf; rcases T2.out with rfl | rfl | rfl <;> (go_wp2_with fail) <;> first
          | (go_ret; exact ⟨by rw [← HR.out]; first | rfl | decide, G0.out⟩)
          | ((with_reducible refine (K3.out _).mono ?_); rintro e w2 ⟨rfl, hf⟩; replace c0 := cell_fr c0 hf; replace c1 := cell_fr c1 hf; replace c2 := cell_fr c2 hf; replace c3 := cell_fr c3 hf; replace c4 := cell_fr c4 hf; replace c5 := cell_fr c5 hf; replace c6 := cell_fr c6 hf; replace c7 := cell_fr c7 hf; replace c8 := cell_fr c8 hf; replace c9 := cell_fr c9 hf; replace c10 := cell_fr c10 hf; replace c11 := cell_fr c11 hf; replace G0 := Lib.hid (G0.out.trans hf); clear hf; rcases T3.out with rfl | rfl | rfl <;> (go_wp2_with fail) <;> (go_ret; exact ⟨by rw [← HR.out]; first | rfl | decide, G0.out⟩)))
end Go.Proofs.Ytalbaopfdejooaa.HullO
