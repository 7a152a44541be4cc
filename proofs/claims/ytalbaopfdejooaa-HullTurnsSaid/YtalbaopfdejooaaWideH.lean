/- Chapter 2: the walks of Add, sub (package wide). -/
import Derived.Test.YtalbaopfdejooaaWideG
namespace Go.Proofs.Ytalbaopfdejooaa.WideH
open Go.RowKit Base WideA WideB WideE WideG
set_option linter.unusedVariables false
set_option linter.unusedSimpArgs false

set_option maxHeartbeats 2000000 in
theorem add_any (ah al bh bl : Int) (h1 : -9223372036854775808 ≤ ah ∧ ah ≤ 9223372036854775807) (h2 : 0 ≤ al ∧ al ≤ 18446744073709551615) (h3 : -9223372036854775808 ≤ bh ∧ bh ≤ 9223372036854775807) (h4 : 0 ≤ bl ∧ bl ≤ 18446744073709551615) (w : World) :
    Calls Try.prog 66 #[.agg #[.int .i64 ah, .int .u64 al], .agg #[.int .i64 bh, .int .u64 bl]] w fun e w' =>
      e = .returned (told ((ah * 18446744073709551616 + al) + (bh * 18446744073709551616 + bl))) ∧ Fr Nil w w' := by
  have hr := fun v => raw_any ah al bh bl h1 h2 h3 h4 v
  obtain ⟨H, hH⟩ : ∃ H, wrap64 (ah + bh + (al + bl) / 18446744073709551616) = H := ⟨_, rfl⟩
  obtain ⟨L, hL⟩ : ∃ L, (al + bl) % 18446744073709551616 = L := ⟨_, rfl⟩
  rw [hH, hL] at hr
  have key : told ((ah * 18446744073709551616 + al) + (bh * 18446744073709551616 + bl)) = if ((ah < 0 ↔ bh < 0) ∧ ¬ (H < 0 ↔ ah < 0)) then .tuple #[.agg #[.int .i64 0, .int .u64 0], .bool false] else .tuple #[.agg #[.int .i64 H, .int .u64 L], .bool true] := by
    unfold told
    unfold wrap64 at hH
    split
    · rw [if_neg (by omega)]
      rw [show (ah * 18446744073709551616 + al + (bh * 18446744073709551616 + bl)) / 18446744073709551616 = H by omega, show (ah * 18446744073709551616 + al + (bh * 18446744073709551616 + bl)) % 18446744073709551616 = L by omega]
    · rw [if_pos (by omega)]
  have KEY := Lib.hid key
  clear key
  have L0 : 0 ≤ L ∧ L ≤ 18446744073709551615 := by omega
  have H0 : -9223372036854775808 ≤ H ∧ H ≤ 9223372036854775807 := by unfold wrap64 at hH; omega
  clear hH hL
  by_cases sa : ah < 0 <;> by_cases sb : bh < 0 <;> by_cases sh : H < 0
  all_goals
    go_enter Try.func66, Try.ntmps66
    go_wp2_with fail
    refine Calls.mono (hr _) ?_
    rintro e w' ⟨rfl, hf⟩
    have hl : w.heap.size + 1 + 1 < w'.heap.size := by have := hf.size; simp at this; omega
    have hA : Bk w' w.heap.size 56 #[.int .i64 ah, .int .u64 al] := Bk.fr (S := Nil) (by (repeat' (first | ((with_reducible refine new' ?_); simp; done) | with_reducible refine Bk.alloc ?_ _ | with_reducible refine Bk.far ?_ (by dsimp only; omega) _ | with_reducible refine Bk.drewN ?_ _ | with_reducible refine Bk.drew ?_))) hf (fun s => s)
    have hB : Bk w' (w.heap.size + 1) 56 #[.int .i64 bh, .int .u64 bl] := Bk.fr (S := Nil) (by (repeat' (first | ((with_reducible refine new' ?_); simp; done) | with_reducible refine Bk.alloc ?_ _ | with_reducible refine Bk.far ?_ (by dsimp only; omega) _ | with_reducible refine Bk.drewN ?_ _ | with_reducible refine Bk.drew ?_))) hf (fun s => s)
    have hC : Bk w' (w.heap.size + 1 + 1) 56 #[.int .i64 0, .int .u64 0] := Bk.fr (S := Nil) (by (repeat' (first | ((with_reducible refine new' ?_); simp; done) | with_reducible refine Bk.alloc ?_ _ | with_reducible refine Bk.far ?_ (by dsimp only; omega) _ | with_reducible refine Bk.drewN ?_ _ | with_reducible refine Bk.drew ?_))) hf (fun s => s)
    obtain ⟨k0, k1, f0, f1⟩ := hA.c2
    obtain ⟨k2, k3, f2, f3⟩ := hB.c2
    obtain ⟨k4, k5, f4, f5⟩ := hC.c2
    have n0 := hA.lt
    have n1 := hB.lt
    go_wp2_with fail
    all_goals first
      | (exfalso; rename_i hx; simp at hx; omega)
      | (refine bodyPost_ret (v := .tuple #[.agg #[.int .i64 H, .int .u64 L], .bool true]) (by simp [results, Try.results66, go_sem, k4, k5, hl, Nat.ne_of_lt hl]) rfl ⟨?_, ?_⟩
         · rw [KEY.out, if_neg (by omega)]
         · have hh : Fr Nil w w' := Fr.trans (by (repeat' (with_reducible first | refine Fr.setCell ?_ (fun hlt => absurd hlt (by dsimp only; omega)) _ | refine Fr.alloc ?_ _ | refine Fr.drewN ?_ _ | refine Fr.drew ?_ | exact Fr.refl _ _))) hf
           (repeat' (with_reducible first | exact hh | refine Fr.setCell ?_ (fun hlt => absurd hlt (by dsimp only; omega)) _ | refine Fr.alloc ?_ _ | refine Fr.drewN ?_ _ | refine Fr.drew ?_)))
      | (refine bodyPost_ret (v := .tuple #[.agg #[.int .i64 0, .int .u64 0], .bool false]) (by simp [results, Try.results66, go_sem, k4, k5, hl, Nat.ne_of_lt hl]) rfl ⟨?_, ?_⟩
         · rw [KEY.out, if_pos (by omega)]
         · have hh : Fr Nil w w' := Fr.trans (by (repeat' (with_reducible first | refine Fr.setCell ?_ (fun hlt => absurd hlt (by dsimp only; omega)) _ | refine Fr.alloc ?_ _ | refine Fr.drewN ?_ _ | refine Fr.drew ?_ | exact Fr.refl _ _))) hf
           (repeat' (with_reducible first | exact hh | refine Fr.setCell ?_ (fun hlt => absurd hlt (by dsimp only; omega)) _ | refine Fr.alloc ?_ _ | refine Fr.drewN ?_ _ | refine Fr.drew ?_)))

set_option maxHeartbeats 2000000 in
theorem sub_any (ah al bh bl : Int) (h1 : -9223372036854775808 ≤ ah ∧ ah ≤ 9223372036854775807) (h2 : 0 ≤ al ∧ al ≤ 18446744073709551615) (h3 : -9223372036854775808 ≤ bh ∧ bh ≤ 9223372036854775807) (h4 : 0 ≤ bl ∧ bl ≤ 18446744073709551615) (w : World) :
    Calls Try.prog 85 #[.agg #[.int .i64 ah, .int .u64 al], .agg #[.int .i64 bh, .int .u64 bl]] w fun e w' =>
      e = .returned (told ((ah * 18446744073709551616 + al) - (bh * 18446744073709551616 + bl))) ∧ Fr Nil w w' := by
  have hr := fun v => less_any ah al bh bl h1 h2 h3 h4 v
  obtain ⟨H, hH⟩ : ∃ H, wrap64 (ah - bh + (al - bl) / 18446744073709551616) = H := ⟨_, rfl⟩
  obtain ⟨L, hL⟩ : ∃ L, (al - bl) % 18446744073709551616 = L := ⟨_, rfl⟩
  rw [hH, hL] at hr
  have key : told ((ah * 18446744073709551616 + al) - (bh * 18446744073709551616 + bl)) = if (¬ (ah < 0 ↔ bh < 0) ∧ ¬ (H < 0 ↔ ah < 0)) then .tuple #[.agg #[.int .i64 0, .int .u64 0], .bool false] else .tuple #[.agg #[.int .i64 H, .int .u64 L], .bool true] := by
    unfold told
    unfold wrap64 at hH
    split
    · rw [if_neg (by omega)]
      rw [show (ah * 18446744073709551616 + al - (bh * 18446744073709551616 + bl)) / 18446744073709551616 = H by omega, show (ah * 18446744073709551616 + al - (bh * 18446744073709551616 + bl)) % 18446744073709551616 = L by omega]
    · rw [if_pos (by omega)]
  have KEY := Lib.hid key
  clear key
  have L0 : 0 ≤ L ∧ L ≤ 18446744073709551615 := by omega
  have H0 : -9223372036854775808 ≤ H ∧ H ≤ 9223372036854775807 := by unfold wrap64 at hH; omega
  clear hH hL
  by_cases sa : ah < 0 <;> by_cases sb : bh < 0 <;> by_cases sh : H < 0
  all_goals
    go_enter Try.func85, Try.ntmps85
    go_wp2_with fail
    refine Calls.mono (hr _) ?_
    rintro e w' ⟨rfl, hf⟩
    have hl : w.heap.size + 1 + 1 < w'.heap.size := by have := hf.size; simp at this; omega
    have hA : Bk w' w.heap.size 56 #[.int .i64 ah, .int .u64 al] := Bk.fr (S := Nil) (by (repeat' (first | ((with_reducible refine new' ?_); simp; done) | with_reducible refine Bk.alloc ?_ _ | with_reducible refine Bk.far ?_ (by dsimp only; omega) _ | with_reducible refine Bk.drewN ?_ _ | with_reducible refine Bk.drew ?_))) hf (fun s => s)
    have hB : Bk w' (w.heap.size + 1) 56 #[.int .i64 bh, .int .u64 bl] := Bk.fr (S := Nil) (by (repeat' (first | ((with_reducible refine new' ?_); simp; done) | with_reducible refine Bk.alloc ?_ _ | with_reducible refine Bk.far ?_ (by dsimp only; omega) _ | with_reducible refine Bk.drewN ?_ _ | with_reducible refine Bk.drew ?_))) hf (fun s => s)
    have hC : Bk w' (w.heap.size + 1 + 1) 56 #[.int .i64 0, .int .u64 0] := Bk.fr (S := Nil) (by (repeat' (first | ((with_reducible refine new' ?_); simp; done) | with_reducible refine Bk.alloc ?_ _ | with_reducible refine Bk.far ?_ (by dsimp only; omega) _ | with_reducible refine Bk.drewN ?_ _ | with_reducible refine Bk.drew ?_))) hf (fun s => s)
    obtain ⟨k0, k1, f0, f1⟩ := hA.c2
    obtain ⟨k2, k3, f2, f3⟩ := hB.c2
    obtain ⟨k4, k5, f4, f5⟩ := hC.c2
    have n0 := hA.lt
    have n1 := hB.lt
    go_wp2_with fail
    all_goals first
      | (exfalso; rename_i hx; simp at hx; omega)
      | (refine bodyPost_ret (v := .tuple #[.agg #[.int .i64 H, .int .u64 L], .bool true]) (by simp [results, Try.results85, go_sem, k4, k5, hl, Nat.ne_of_lt hl]) rfl ⟨?_, ?_⟩
         · rw [KEY.out, if_neg (by omega)]
         · have hh : Fr Nil w w' := Fr.trans (by (repeat' (with_reducible first | refine Fr.setCell ?_ (fun hlt => absurd hlt (by dsimp only; omega)) _ | refine Fr.alloc ?_ _ | refine Fr.drewN ?_ _ | refine Fr.drew ?_ | exact Fr.refl _ _))) hf
           (repeat' (with_reducible first | exact hh | refine Fr.setCell ?_ (fun hlt => absurd hlt (by dsimp only; omega)) _ | refine Fr.alloc ?_ _ | refine Fr.drewN ?_ _ | refine Fr.drew ?_)))
      | (refine bodyPost_ret (v := .tuple #[.agg #[.int .i64 0, .int .u64 0], .bool false]) (by simp [results, Try.results85, go_sem, k4, k5, hl, Nat.ne_of_lt hl]) rfl ⟨?_, ?_⟩
         · rw [KEY.out, if_pos (by omega)]
         · have hh : Fr Nil w w' := Fr.trans (by (repeat' (with_reducible first | refine Fr.setCell ?_ (fun hlt => absurd hlt (by dsimp only; omega)) _ | refine Fr.alloc ?_ _ | refine Fr.drewN ?_ _ | refine Fr.drew ?_ | exact Fr.refl _ _))) hf
           (repeat' (with_reducible first | exact hh | refine Fr.setCell ?_ (fun hlt => absurd hlt (by dsimp only; omega)) _ | refine Fr.alloc ?_ _ | refine Fr.drewN ?_ _ | refine Fr.drew ?_)))
end Go.Proofs.Ytalbaopfdejooaa.WideH
