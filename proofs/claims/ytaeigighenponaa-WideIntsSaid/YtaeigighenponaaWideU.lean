/- Chapter 2: the walk of the law WideInts. -/
import Derived.Test.YtaeigighenponaaWideS
namespace Go.Proofs.Ytaeigighenponaa.WideU
open Go.RowKit Base WideA WideB WideE WideF Quiet
set_option linter.unusedVariables false
set_option linter.unusedSimpArgs false

set_option maxHeartbeats 4000000 in
theorem ints_any (ah al b : Int) (w : World) (h1 : -9223372036854775808 ≤ ah ∧ ah ≤ 9223372036854775807) (h2 : 0 ≤ al ∧ al ≤ 18446744073709551615) (h3 : -9223372036854775808 ≤ b ∧ b ≤ 9223372036854775807) :
    Calls Try.prog 5 #[.agg #[.int .i64 ah, .int .u64 al], .int .i64 b] w fun e w' => e = .returned (.bool true) ∧ Fr Nil w w' := by
  have kO := fun W => WideJ.Of_any b W h3.1 h3.2
  have kN := fun W => WideL.Int_any (b / 18446744073709551616) (b % 18446744073709551616) W (by omega) (by omega)
  have e1 : wrap64 (b % 18446744073709551616) = b := by unfold wrap64; omega
  rw [e1, if_pos (by omega)] at kN
  have kI := fun W => WideL.Int_any ah al W h1 h2
  generalize b / 18446744073709551616 = bh at *
  generalize b % 18446744073709551616 = bl at *
  obtain ⟨n, hn⟩ : ∃ n, wrap64 al = n := ⟨_, rfl⟩
  have hnb : -9223372036854775808 ≤ n ∧ n ≤ 9223372036854775807 := by unfold wrap64 at hn; omega
  have kR := fun W => WideJ.Of_any n W hnb.1 hnb.2
  rw [hn] at kI
  have O := Lib.hid kO
  have N := Lib.hid kN
  by_cases h : ah = n / 9223372036854775808
  · simp only [if_pos h] at kI
    have r1 : n / 18446744073709551616 = ah := by unfold wrap64 at hn; omega
    have r2 : n % 18446744073709551616 = al := by unfold wrap64 at hn; omega
    rw [r1, r2] at kR
    have I := Lib.hid kI
    have R := Lib.hid kR
    clear kO kN kI kR hn hnb h1 h2 h3 e1 h r1 r2
    go_enter Try.func5, Try.ntmps5
    go_wp2_with fail
    refine (I.out _).mono ?_
    rintro e w1 ⟨rfl, hf1⟩
    have hB1 : Bk w1 w.heap.size 24 #[.int .i64 ah, .int .u64 al] := (Bk.new w _ _).fr hf1 id
    have g1 := ((Fr.refl Nil w).alloc (.cells #[.int .i64 ah, .int .u64 al] 24)).trans hf1
    clear hf1
    go_wp2_with fail
    refine (O.out _).mono ?_
    rintro e w2 ⟨rfl, hf2⟩
    have hB2 := hB1.fr hf2 id
    have g2 := g1.trans hf2
    clear hf2 hB1 g1
    go_wp2_with fail
    refine (N.out _).mono ?_
    rintro e w3 ⟨rfl, hf3⟩
    have hB3 := hB2.fr hf3 id
    have g3 := g2.trans hf3
    clear hf3 hB2 g2
    go_wp2_with fail
    obtain ⟨q1, q2⟩ := quiet_c2 (S := Nil) hB3 id
    refine wp_region_quiet_fr Nil (by kernel_rfl) (by kernel_rfl) ?_
    repeat (go_big_quiet_step (first
      | (go_at_call 12; with_reducible exact quiet_call (R.out _))
      | (go_at_call 13; with_reducible exact quiet_call (WideS.lives_any _))))
    refine wpQuiet_nil ?_
    intro _ hw'
    obtain ⟨⟨wq, hfq⟩, hw''⟩ := hw'
    subst hw''
    go_wp2_with fail
    exact bodyPost_ret (v := .bool true) (by simp [results, Try.results5, go_sem]) rfl ⟨rfl, g3.trans hfq⟩
  · simp only [if_neg h] at kI
    have r1 : ¬ (ah = 0 ∧ al < 9223372036854775808) ∧ ¬ (ah = -1 ∧ 9223372036854775808 ≤ al) := by unfold wrap64 at hn; omega
    have I := Lib.hid kI
    clear kO kN kI kR hn hnb h3 e1 h
    go_enter Try.func5, Try.ntmps5
    go_wp2_with fail
    refine (I.out _).mono ?_
    rintro e w1 ⟨rfl, hf1⟩
    have hB1 : Bk w1 w.heap.size 24 #[.int .i64 ah, .int .u64 al] := (Bk.new w _ _).fr hf1 id
    have g1 := ((Fr.refl Nil w).alloc (.cells #[.int .i64 ah, .int .u64 al] 24)).trans hf1
    clear hf1
    go_wp2_with fail
    refine (O.out _).mono ?_
    rintro e w2 ⟨rfl, hf2⟩
    have hB2 := hB1.fr hf2 id
    have g2 := g1.trans hf2
    clear hf2 hB1 g1
    go_wp2_with fail
    refine (N.out _).mono ?_
    rintro e w3 ⟨rfl, hf3⟩
    have hB3 := hB2.fr hf3 id
    have g3 := g2.trans hf3
    clear hf3 hB2 g2
    obtain ⟨c0, c1, f0, f1⟩ := hB3.c2
    have hc : ah = 0 ∧ 9223372036854775808 ≤ al ∨ ah = -1 ∧ al < 9223372036854775808 ∨ ah ≠ 0 ∧ ah ≠ -1 := by omega
    have HR := Lib.hid r1
    clear r1
    rcases hc with ⟨rfl, h⟩ | ⟨rfl, h⟩ | ⟨h, h'⟩
    all_goals
      go_wp2_with fail
      all_goals first
        | (exfalso; omega)
        | (refine (WideS.lives_any _).mono ?_
           rintro e w4 ⟨rfl, hf4⟩
           have g4 := g3.trans hf4
           clear hf4
           go_wp2_with fail
           exact bodyPost_ret (v := .bool true) (by simp [results, Try.results5, go_sem] <;> omega) rfl ⟨rfl, by (repeat' (with_reducible first | exact g4 | refine Fr.setCell ?_ (fun hlt => absurd hlt (by dsimp only; omega)) _ | refine Fr.alloc ?_ _ | refine Fr.drewN ?_ _ | refine Fr.drew ?_))⟩)
end Go.Proofs.Ytaeigighenponaa.WideU
