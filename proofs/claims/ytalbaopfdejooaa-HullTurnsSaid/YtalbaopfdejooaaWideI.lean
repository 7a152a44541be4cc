/- Chapter 2: the walks of Sub, Neg (package wide). -/
import Derived.Test.YtalbaopfdejooaaWideH
namespace Go.Proofs.Ytalbaopfdejooaa.WideI
open Go.RowKit Base WideA WideB WideE WideG WideH
set_option linter.unusedVariables false
set_option linter.unusedSimpArgs false

/-- what told says, as parts -/
theorem told_parts (n : Int) : ∃ (h l : Int) (b : Bool), told n = .tuple #[.agg #[.int .i64 h, .int .u64 l], .bool b] ∧ -9223372036854775808 ≤ h ∧ h ≤ 9223372036854775807 ∧ 0 ≤ l ∧ l ≤ 18446744073709551615 := by
  unfold told
  split
  · exact ⟨_, _, _, rfl, by omega, by omega, by omega, by omega⟩
  · exact ⟨_, _, _, rfl, by omega, by omega, by omega, by omega⟩

set_option maxHeartbeats 2000000 in
theorem Sub_any (ah al bh bl : Int) (h1 : -9223372036854775808 ≤ ah ∧ ah ≤ 9223372036854775807) (h2 : 0 ≤ al ∧ al ≤ 18446744073709551615) (h3 : -9223372036854775808 ≤ bh ∧ bh ≤ 9223372036854775807) (h4 : 0 ≤ bl ∧ bl ≤ 18446744073709551615) (w : World) :
    Calls Try.prog 79 #[.agg #[.int .i64 ah, .int .u64 al], .agg #[.int .i64 bh, .int .u64 bl]] w fun e w' =>
      e = .returned (told ((ah * 18446744073709551616 + al) - (bh * 18446744073709551616 + bl))) ∧ Fr Nil w w' := by
  have hr := fun v => sub_any ah al bh bl h1 h2 h3 h4 v
  obtain ⟨h, l, b, ht, t1, t2, t3, t4⟩ := told_parts ((ah * 18446744073709551616 + al) - (bh * 18446744073709551616 + bl))
  rw [ht]
  rw [ht] at hr
  clear ht
  go_enter Try.func79, Try.ntmps79
  go_wp2_with fail
  refine Calls.mono (hr _) ?_
  rintro e w' ⟨rfl, hf⟩
  have hl : w.heap.size + 1 + 1 < w'.heap.size := by have := hf.size; simp at this; omega
  have hC : Bk w' (w.heap.size + 1 + 1) 56 #[.int .i64 0, .int .u64 0] := Bk.fr (S := Nil) (by (repeat' (first | ((with_reducible refine new' ?_); simp; done) | with_reducible refine Bk.alloc ?_ _ | with_reducible refine Bk.far ?_ (by dsimp only; omega) _ | with_reducible refine Bk.drewN ?_ _ | with_reducible refine Bk.drew ?_))) hf (fun s => s)
  obtain ⟨k4, k5, f4, f5⟩ := hC.c2
  go_wp2_with fail
  refine bodyPost_ret (v := .tuple #[.agg #[.int .i64 h, .int .u64 l], .bool b]) (by simp [results, Try.results79, go_sem, k4, k5, hl, Nat.ne_of_lt hl]) rfl ⟨rfl, ?_⟩
  have hh : Fr Nil w w' := Fr.trans (by (repeat' (with_reducible first | refine Fr.setCell ?_ (fun hlt => absurd hlt (by dsimp only; omega)) _ | refine Fr.alloc ?_ _ | refine Fr.drewN ?_ _ | refine Fr.drew ?_ | exact Fr.refl _ _))) hf
  (repeat' (with_reducible first | exact hh | refine Fr.setCell ?_ (fun hlt => absurd hlt (by dsimp only; omega)) _ | refine Fr.alloc ?_ _ | refine Fr.drewN ?_ _ | refine Fr.drew ?_))

end Go.Proofs.Ytalbaopfdejooaa.WideI
