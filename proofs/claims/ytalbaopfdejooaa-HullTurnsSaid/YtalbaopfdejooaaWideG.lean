/- Chapter 2: the walks of raw, less (package wide): sums and differences that may have run over. -/
import Derived.Test.YtalbaopfdejooaaWideF
import Derived.Shelf.Spec.BitsCarry
namespace Go.Proofs.Ytalbaopfdejooaa.WideG
open Go.RowKit Base WideA WideB
set_option linter.unusedVariables false
set_option linter.unusedSimpArgs false

theorem add64 (x y c : Int) (hx : 0 ≤ x) (hy : 0 ≤ y) (hc0 : 0 ≤ c) (hc : c ≤ 1) (w : World) : (callFunc 84 #[.int .u64 x, .int .u64 y, .int .u64 c]).run Try.prog w =
    .ok (.value (.tuple #[.int .u64 ((x + y + c) % 18446744073709551616), .int .u64 ((x + y + c) / 18446744073709551616)])) w := by
  rw [run_callFunc_extern Try.func84 (by kernel_rfl) (by kernel_rfl) (by kernel_rfl) (e := add64Entry) (by kernel_rfl), run_add64 x y c hx hy hc0 hc]
  rfl

theorem sub64 (x y b : Int) (hx : 0 ≤ x) (hy : 0 ≤ y) (hy' : y < 18446744073709551616) (hb0 : 0 ≤ b) (hb : b ≤ 1) (w : World) : (callFunc 88 #[.int .u64 x, .int .u64 y, .int .u64 b]).run Try.prog w =
    .ok (.value (.tuple #[.int .u64 ((x - y - b) % 18446744073709551616), .int .u64 (if x < y + b then 1 else 0)])) w := by
  obtain ⟨x, rfl⟩ := Int.eq_ofNat_of_zero_le hx
  obtain ⟨y, rfl⟩ := Int.eq_ofNat_of_zero_le hy
  obtain ⟨b, rfl⟩ := Int.eq_ofNat_of_zero_le hb0
  have e1 : (((x + 18446744073709551616 - y - b) % 18446744073709551616 : Nat) : Int) = ((x : Int) - y - b) % 18446744073709551616 := by omega
  have e2 : ((if x < y + b then 1 else 0 : Nat) : Int) = if (x : Int) < y + b then 1 else 0 := by split <;> split <;> omega
  rw [← e1, ← e2]
  rw [run_callFunc_extern Try.func88 (by kernel_rfl) (by kernel_rfl) (by kernel_rfl) (e := sub64Entry) (by kernel_rfl), run_sub64 x y b (by omega)]
  rfl

theorem add64_0 (x y : Int) (hx : 0 ≤ x) (hy : 0 ≤ y) (w : World) : (callFunc 84 #[.int .u64 x, .int .u64 y, .int .u64 0]).run Try.prog w =
    .ok (.value (.tuple #[.int .u64 ((x + y) % 18446744073709551616), .int .u64 ((x + y) / 18446744073709551616)])) w := by
  simpa using add64 x y 0 hx hy (Int.le_refl 0) (by decide) w
theorem sub64_0 (x y : Int) (hx : 0 ≤ x) (hy : 0 ≤ y) (hy' : y < 18446744073709551616) (w : World) : (callFunc 88 #[.int .u64 x, .int .u64 y, .int .u64 0]).run Try.prog w =
    .ok (.value (.tuple #[.int .u64 ((x - y) % 18446744073709551616), .int .u64 (if x < y then 1 else 0)])) w := by
  simpa using sub64 x y 0 hx hy hy' (Int.le_refl 0) (by decide) w

theorem wrap_u (a : Int) : IntKind.u64.wrap a = a % 18446744073709551616 := IntKind.wrap_u64 a

set_option maxHeartbeats 1000000 in
theorem raw_any (ah al bh bl : Int) (h1 : -9223372036854775808 ≤ ah ∧ ah ≤ 9223372036854775807) (h2 : 0 ≤ al ∧ al ≤ 18446744073709551615) (h3 : -9223372036854775808 ≤ bh ∧ bh ≤ 9223372036854775807) (h4 : 0 ≤ bl ∧ bl ≤ 18446744073709551615) (w : World) :
    Calls Try.prog 77 #[.agg #[.int .i64 ah, .int .u64 al], .agg #[.int .i64 bh, .int .u64 bl]] w fun e w' =>
      e = .returned (.agg #[.int .i64 (wrap64 (ah + bh + (al + bl) / 18446744073709551616)), .int .u64 ((al + bl) % 18446744073709551616)]) ∧ Fr Nil w w' := by
  obtain ⟨ua, hua⟩ : ∃ u, IntKind.u64.wrap ah = u := ⟨_, rfl⟩
  obtain ⟨ub, hub⟩ : ∃ u, IntKind.u64.wrap bh = u := ⟨_, rfl⟩
  have ea := Lib.hid ((wrap_u ah).symm.trans hua)
  have eb := Lib.hid ((wrap_u bh).symm.trans hub)
  have a0 : 0 ≤ ua := by have := ea.out; omega
  have b0 : 0 ≤ ub := by have := eb.out; omega
  have k0 : 0 ≤ (al + bl) / 18446744073709551616 := by omega
  have k1 : (al + bl) / 18446744073709551616 ≤ 1 := by omega
  go_enter Try.func77, Try.ntmps77
  go_wp2_with (first | simp only [add64_0 al bl h2.1 h4.1] | simp only [add64 ua ub _ a0 b0 k0 k1])
  refine bodyPost_ret (v := .agg #[.int .i64 (wrap64 (ah + bh + (al + bl) / 18446744073709551616)), .int .u64 ((al + bl) % 18446744073709551616)]) ?_ rfl ⟨rfl, by (repeat' (with_reducible first | refine Fr.setCell ?_ (fun hlt => absurd hlt (by dsimp only; omega)) _ | refine Fr.alloc ?_ _ | refine Fr.drewN ?_ _ | refine Fr.drew ?_ | exact Fr.refl _ _))⟩
  have e1 : wrap64 ((ua + ub + (al + bl) / 18446744073709551616) % 18446744073709551616) = wrap64 (ah + bh + (al + bl) / 18446744073709551616) := by
    have := ea.out
    have := eb.out
    unfold wrap64
    omega
  rw [← e1]
  simp [results, Try.results77, go_sem]

set_option maxHeartbeats 1000000 in
theorem less_any (ah al bh bl : Int) (h1 : -9223372036854775808 ≤ ah ∧ ah ≤ 9223372036854775807) (h2 : 0 ≤ al ∧ al ≤ 18446744073709551615) (h3 : -9223372036854775808 ≤ bh ∧ bh ≤ 9223372036854775807) (h4 : 0 ≤ bl ∧ bl ≤ 18446744073709551615) (w : World) :
    Calls Try.prog 87 #[.agg #[.int .i64 ah, .int .u64 al], .agg #[.int .i64 bh, .int .u64 bl]] w fun e w' =>
      e = .returned (.agg #[.int .i64 (wrap64 (ah - bh + (al - bl) / 18446744073709551616)), .int .u64 ((al - bl) % 18446744073709551616)]) ∧ Fr Nil w w' := by
  obtain ⟨ua, hua⟩ : ∃ u, IntKind.u64.wrap ah = u := ⟨_, rfl⟩
  obtain ⟨ub, hub⟩ : ∃ u, IntKind.u64.wrap bh = u := ⟨_, rfl⟩
  have ea := Lib.hid ((wrap_u ah).symm.trans hua)
  have eb := Lib.hid ((wrap_u bh).symm.trans hub)
  have a0 : 0 ≤ ua := by have := ea.out; omega
  have b0 : 0 ≤ ub := by have := eb.out; omega
  have b1 : ub < 18446744073709551616 := by have := eb.out; omega
  have hq : ∃ q : Int, 0 ≤ q ∧ q ≤ 1 ∧ (al - bl) / 18446744073709551616 = -q ∧ ∀ v : World, (callFunc 88 #[.int .u64 al, .int .u64 bl, .int .u64 0]).run Try.prog v = .ok (.value (.tuple #[.int .u64 ((al - bl) % 18446744073709551616), .int .u64 q])) v := by
    refine ⟨if al < bl then 1 else 0, ?_, ?_, ?_, fun v => sub64_0 al bl h2.1 h4.1 (by omega) v⟩ <;> split <;> omega
  obtain ⟨q, q0, q1, hq, hc⟩ := hq
  have HQ := Lib.hid hq
  clear hq
  go_enter Try.func87, Try.ntmps87
  go_wp2_with (first | simp only [hc] | simp only [sub64 ua ub q a0 b0 b1 q0 q1])
  all_goals
    refine bodyPost_ret (v := .agg #[.int .i64 (wrap64 (ah - bh + (al - bl) / 18446744073709551616)), .int .u64 ((al - bl) % 18446744073709551616)]) ?_ rfl ⟨rfl, by (repeat' (with_reducible first | refine Fr.setCell ?_ (fun hlt => absurd hlt (by dsimp only; omega)) _ | refine Fr.alloc ?_ _ | refine Fr.drewN ?_ _ | refine Fr.drew ?_ | exact Fr.refl _ _))⟩
    have e1 : wrap64 ((ua - ub - q) % 18446744073709551616) = wrap64 (ah - bh + (al - bl) / 18446744073709551616) := by
      have := ea.out
      have := eb.out
      have := HQ.out
      unfold wrap64
      omega
    rw [← e1]
    simp [results, Try.results87, go_sem]
end Go.Proofs.Ytalbaopfdejooaa.WideG
