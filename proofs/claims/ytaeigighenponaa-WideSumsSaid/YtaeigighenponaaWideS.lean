/- Chapter 2: the walks of lives and of the law WideOrders. -/
import Derived.Test.YtaeigighenponaaWideQ
import Derived.Test.YtaeigighenponaaQuiet
namespace Go.Proofs.Ytaeigighenponaa.WideS
open Go.RowKit Base WideA WideB WideE WideF Quiet
set_option linter.unusedVariables false
set_option linter.unusedSimpArgs false

set_option maxHeartbeats 2000000 in
theorem lives_any (w : World) : Calls Try.prog 13 #[] w fun e w' => e = .returned (.bool true) ∧ Fr Nil w w' := by
  have hM : ∀ W, Calls Try.prog 11 #[.int .i64 1099511627776, .int .i64 (-1099511627776)] W fun e w' => e = .returned (.agg #[.int .i64 (-65536), .int .u64 0]) ∧ Fr Nil W w' := fun W => by
    have h := WideQ.Mul_any 1099511627776 (-1099511627776) (by omega) (by omega) W
    rw [show (1099511627776 : Int) * -1099511627776 / 18446744073709551616 = -65536 by decide, show (1099511627776 : Int) * -1099511627776 % 18446744073709551616 = 0 by decide] at h
    exact h
  have h3 : ∀ W, Calls Try.prog 12 #[.int .i64 3] W fun e w' => e = .returned (.agg #[.int .i64 0, .int .u64 3]) ∧ Fr Nil W w' := fun W => by
    have h := WideJ.Of_any 3 W (by omega) (by omega)
    rw [show (3 : Int) / 18446744073709551616 = 0 by decide, show (3 : Int) % 18446744073709551616 = 3 by decide] at h
    exact h
  have h4 : ∀ W, Calls Try.prog 12 #[.int .i64 (-3)] W fun e w' => e = .returned (.agg #[.int .i64 (-1), .int .u64 18446744073709551613]) ∧ Fr Nil W w' := fun W => by
    have h := WideJ.Of_any (-3) W (by omega) (by omega)
    rw [show (-3 : Int) / 18446744073709551616 = -1 by decide, show (-3 : Int) % 18446744073709551616 = 18446744073709551613 by decide] at h
    exact h
  have hC : ∀ W, Calls Try.prog 14 #[.agg #[.int .i64 0, .int .u64 3], .agg #[.int .i64 (-1), .int .u64 18446744073709551613]] W fun e w' => e = .returned (.int .i64 1) ∧ Fr Nil W w' := fun W => by
    have h := WideP.Cmp_any 0 3 (-1) 18446744073709551613 (by omega) (by omega) (by omega) (by omega) W
    rw [show cmpI (0 * 18446744073709551616 + 3) (-1 * 18446744073709551616 + 18446744073709551613) = 1 by decide] at h
    exact h
  have HM := Lib.hid hM
  have H3 := Lib.hid h3
  have H4 := Lib.hid h4
  have HC := Lib.hid hC
  clear hM h3 h4 hC
  go_enter Try.func13, Try.ntmps13
  go_wp2_with fail
  refine (HM.out _).mono ?_
  rintro e w1 ⟨rfl, hf1⟩
  go_wp2_with fail
  refine (H3.out _).mono ?_
  rintro e w2 ⟨rfl, hf2⟩
  go_wp2_with fail
  refine (H4.out _).mono ?_
  rintro e w3 ⟨rfl, hf3⟩
  go_wp2_with fail
  refine (HC.out _).mono ?_
  rintro e w4 ⟨rfl, hf4⟩
  go_wp2_with fail
  exact bodyPost_ret (v := .bool true) (by simp [results, Try.results13, go_sem]) rfl ⟨rfl, by have := ((hf1.trans hf2).trans hf3).trans hf4; (repeat' (with_reducible first | exact this | refine Fr.setCell ?_ (fun hlt => absurd hlt (by dsimp only; omega)) _ | refine Fr.alloc ?_ _ | refine Fr.drewN ?_ _ | refine Fr.drew ?_))⟩

theorem cmpI_neg (m n : Int) : cmpI n m = -cmpI m n := by
  unfold cmpI
  repeat' split
  all_goals omega
theorem cmpI_bd (m n : Int) : -1 ≤ cmpI m n ∧ cmpI m n ≤ 1 := by
  unfold cmpI
  repeat' split
  all_goals omega

set_option maxHeartbeats 4000000 in
theorem orders_any (ah al bh bl : Int) (w : World) (h1 : -9223372036854775808 ≤ ah ∧ ah ≤ 9223372036854775807) (h2 : 0 ≤ al ∧ al ≤ 18446744073709551615) (h3 : -9223372036854775808 ≤ bh ∧ bh ≤ 9223372036854775807) (h4 : 0 ≤ bl ∧ bl ≤ 18446744073709551615) :
    Calls Try.prog 4 #[.agg #[.int .i64 ah, .int .u64 al], .agg #[.int .i64 bh, .int .u64 bl]] w fun e w' => e = .returned (.bool true) ∧ Fr Nil w w' := by
  obtain ⟨m, hm⟩ : ∃ m, ah * 18446744073709551616 + al = m := ⟨_, rfl⟩
  obtain ⟨n, hn⟩ : ∃ n, bh * 18446744073709551616 + bl = n := ⟨_, rfl⟩
  obtain ⟨c, hc⟩ : ∃ c, cmpI m n = c := ⟨_, rfl⟩
  obtain ⟨z, hz⟩ : ∃ z, cmpI m 0 = z := ⟨_, rfl⟩
  have kAB := fun W => WideP.Cmp_any ah al bh bl h1 h2 h3 h4 W
  have kBA := fun W => WideP.Cmp_any bh bl ah al h3 h4 h1 h2 W
  have kS := fun W => WideP.Sign_any ah al h1 h2 W
  have kA := fun W => of_any ah al W h1.1 h1.2 h2.1 h2.2
  have kB := fun W => of_any bh bl W h3.1 h3.2 h4.1 h4.2
  have kL := fun W => WideC.long_any 0 W (by omega) (by omega)
  have kC := fun W => cmp_any m n W (by omega) (by omega) (by omega) (by omega)
  have kZ := fun W => cmp_any m 0 W (by omega) (by omega) (by omega) (by omega)
  simp only [hm, hn] at kAB kBA kS kA kB
  rw [hc] at kAB
  simp only [cmpI_neg m n, hc] at kBA
  have hcb := cmpI_bd m n
  rw [hc] at hcb
  simp only [hc] at kC
  simp only [hz] at kZ kS
  have AB := Lib.hid kAB
  have BA := Lib.hid kBA
  have S := Lib.hid kS
  have A := Lib.hid kA
  have B := Lib.hid kB
  have L := Lib.hid kL
  have C := Lib.hid kC
  have Z := Lib.hid kZ
  clear kAB kBA kS kA kB kL kC kZ hm hn hc hz h1 h2 h3 h4
  generalize dcells m = dm at *
  generalize dcells n = dn at *
  generalize dcells 0 = d0 at *
  go_enter Try.func4, Try.ntmps4
  go_wp2_with fail
  have hB1 : Bk ((w.alloc (.cells #[.int .i64 ah, .int .u64 al] 24)).alloc (.cells #[.int .i64 bh, .int .u64 bl] 24)) w.heap.size 24 #[.int .i64 ah, .int .u64 al] := by (repeat' (first | ((with_reducible refine new' ?_); simp; done) | with_reducible refine Bk.alloc ?_ _ | with_reducible refine Bk.far ?_ (by dsimp only; omega) _ | with_reducible refine Bk.drewN ?_ _ | with_reducible refine Bk.drew ?_))
  have hB2 : Bk ((w.alloc (.cells #[.int .i64 ah, .int .u64 al] 24)).alloc (.cells #[.int .i64 bh, .int .u64 bl] 24)) (w.heap.size + 1) 24 #[.int .i64 bh, .int .u64 bl] := by (repeat' (first | ((with_reducible refine new' ?_); simp; done) | with_reducible refine Bk.alloc ?_ _ | with_reducible refine Bk.far ?_ (by dsimp only; omega) _ | with_reducible refine Bk.drewN ?_ _ | with_reducible refine Bk.drew ?_))
  have hf0 : Fr Nil w ((w.alloc (.cells #[.int .i64 ah, .int .u64 al] 24)).alloc (.cells #[.int .i64 bh, .int .u64 bl] 24)) := by (repeat' (with_reducible first | refine Fr.setCell ?_ (fun hlt => absurd hlt (by dsimp only; omega)) _ | refine Fr.alloc ?_ _ | refine Fr.drewN ?_ _ | refine Fr.drew ?_ | exact Fr.refl _ _))
  generalize ((w.alloc (.cells #[.int .i64 ah, .int .u64 al] 24)).alloc (.cells #[.int .i64 bh, .int .u64 bl] 24)) = W0 at hB1 hB2 hf0 ⊢
  obtain ⟨q1, q2⟩ := quiet_c2 (S := Nil) hB1 id
  obtain ⟨q3, q4⟩ := quiet_c2 (S := Nil) hB2 id
  refine wp_region_quiet_fr Nil (by kernel_rfl) (by kernel_rfl) ?_
  repeat (go_big_quiet_step (first
    | (go_at_call 14; first | with_reducible exact quiet_call (AB.out _) | with_reducible exact quiet_call (BA.out _))
    | (go_at_call 16; first | with_reducible exact quiet_call (A.out _) | with_reducible exact quiet_call (B.out _))
    | (go_at_call 15; first | with_reducible exact quiet_call (C.out _) | with_reducible exact quiet_call (Z.out _))
    | (go_at_call 17; with_reducible exact quiet_call (S.out _))
    | (go_at_call 10; with_reducible exact quiet_call (L.out _))
    | (go_at_call 13; with_reducible exact quiet_call (lives_any _))))
  refine wpQuiet_nil ?_
  intro _ hw'
  obtain ⟨⟨wq, hfq⟩, hw''⟩ := hw'
  subst hw''
  go_wp2_with fail
  exact bodyPost_ret (v := .bool true) (by simp [results, Try.results4, go_sem]) rfl ⟨rfl, hf0.trans hfq⟩
end Go.Proofs.Ytaeigighenponaa.WideS
