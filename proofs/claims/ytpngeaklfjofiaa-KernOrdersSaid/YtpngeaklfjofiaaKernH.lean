/- Chapter 3: the walk of the law KernOrders. -/
import Derived.Test.YtpngeaklfjofiaaKernG
import Derived.RegionTactic
namespace Go.Proofs.Ytpngeaklfjofiaa.KernH
open Go.RowKit Base WideA WideB WideE WideF KernA KernB KernC KernD KernE KernG Quiet
set_option linter.unusedVariables false
set_option linter.unusedSimpArgs false

set_option maxHeartbeats 16000000 in
theorem orders_any (i x y j u v a b c d k f : Int) (w : World) : Calls Try.prog 5 #[.agg #[.int .i64 i, .int .i64 x, .int .i64 y], .agg #[.int .i64 j, .int .i64 u, .int .i64 v], .agg #[.int .i64 a, .int .i64 b, .int .i64 c, .int .i64 d, .int .i64 k, .int .i64 f]] w fun e w' => e = .returned (.bool true) ∧ Fr Nil w w' := by
  have kKG : ∀ W, Calls Try.prog 13 #[.agg #[.int .i64 i, .int .i64 x, .int .i64 y]] W fun e w' => e = .returned (.bool (inI i && lieB x y)) ∧ Fr Nil W w' := fun W => Good_any i x y W
  have kKRG : ∀ W, Calls Try.prog 14 #[.agg #[.int .i64 i, .int .i64 x, .int .i64 y]] W fun e w' => e = .returned (.bool (inI i && lieB x y)) ∧ Fr Nil W w' := fun W => rGood_any i x y W
  have kKF : ∀ W, Calls Try.prog 15 #[.agg #[.int .i64 a, .int .i64 b, .int .i64 c]] W fun e w' => e = .returned (.bool (fairB a b c)) ∧ Fr Nil W w' := fun W => Fair_any a b c W
  have kKRF : ∀ W, Calls Try.prog 16 #[.agg #[.int .i64 a, .int .i64 b, .int .i64 c]] W fun e w' => e = .returned (.bool (fairB a b c)) ∧ Fr Nil W w' := fun W => rFair_any a b c W
  have kKC : ∀ W, Calls Try.prog 17 #[.agg #[.int .i64 i, .int .i64 x, .int .i64 y], .agg #[.int .i64 j, .int .i64 u, .int .i64 v]] W fun e w' => e = .returned (.int .i64 (lex3 x y i u v j)) ∧ Fr Nil W w' := fun W => Cmp_any i x y j u v W
  have kKT1 : ∀ W, Calls Try.prog 18 #[.agg #[.int .i64 x, .int .i64 y, .int .i64 i], .agg #[.int .i64 u, .int .i64 v, .int .i64 j]] W fun e w' => e = .returned (.int .i64 (lex3 x y i u v j)) ∧ Fr Nil W w' := fun W => three_any x y i u v j W
  have kKU : ∀ W, Calls Try.prog 19 #[.agg #[.int .i64 i, .int .i64 x, .int .i64 y], .agg #[.int .i64 j, .int .i64 u, .int .i64 v]] W fun e w' => e = .returned (.int .i64 (lex3 y x i v u j)) ∧ Fr Nil W w' := fun W => Up_any i x y j u v W
  have kKT2 : ∀ W, Calls Try.prog 18 #[.agg #[.int .i64 y, .int .i64 x, .int .i64 i], .agg #[.int .i64 v, .int .i64 u, .int .i64 j]] W fun e w' => e = .returned (.int .i64 (lex3 y x i v u j)) ∧ Fr Nil W w' := fun W => three_any y x i v u j W
  have kKO : ∀ W, Calls Try.prog 20 #[.agg #[.int .i64 a, .int .i64 b, .int .i64 c], .agg #[.int .i64 d, .int .i64 k, .int .i64 f]] W fun e w' => e = .returned (.int .i64 (lex3 b c a k f d)) ∧ Fr Nil W w' := fun W => Order_any a b c d k f W
  have kKT3 : ∀ W, Calls Try.prog 18 #[.agg #[.int .i64 b, .int .i64 c, .int .i64 a], .agg #[.int .i64 k, .int .i64 f, .int .i64 d]] W fun e w' => e = .returned (.int .i64 (lex3 b c a k f d)) ∧ Fr Nil W w' := fun W => three_any b c a k f d W
  have kKE : ∀ W, Calls Try.prog 21 #[.agg #[.int .i64 a, .int .i64 b, .int .i64 c], .agg #[.int .i64 d, .int .i64 k, .int .i64 f]] W fun e w' => e = .returned (.int .i64 (lex3 c b a f k d)) ∧ Fr Nil W w' := fun W => Ends_any a b c d k f W
  have kKT4 : ∀ W, Calls Try.prog 18 #[.agg #[.int .i64 c, .int .i64 b, .int .i64 a], .agg #[.int .i64 f, .int .i64 k, .int .i64 d]] W fun e w' => e = .returned (.int .i64 (lex3 c b a f k d)) ∧ Fr Nil W w' := fun W => three_any c b a f k d W
  generalize (inI i && lieB x y) = z0 at *
  generalize fairB a b c = z1 at *
  generalize lex3 x y i u v j = z2 at *
  generalize lex3 y x i v u j = z3 at *
  generalize lex3 b c a k f d = z4 at *
  generalize lex3 c b a f k d = z5 at *
  have KG := Lib.hid kKG
  have KRG := Lib.hid kKRG
  have KF := Lib.hid kKF
  have KRF := Lib.hid kKRF
  have KC := Lib.hid kKC
  have KT1 := Lib.hid kKT1
  have KU := Lib.hid kKU
  have KT2 := Lib.hid kKT2
  have KO := Lib.hid kKO
  have KT3 := Lib.hid kKT3
  have KE := Lib.hid kKE
  have KT4 := Lib.hid kKT4
  clear kKG kKRG kKF kKRF kKC kKT1 kKU kKT2 kKO kKT3 kKE kKT4
  go_enter Try.func5, Try.ntmps5
  go_wp2_with fail
  go_region
  · go_wp2_with fail
    have hP : Bk ((((((w.alloc (.cells #[.int .i64 i, .int .i64 x, .int .i64 y] 23)).alloc (.cells #[.int .i64 j, .int .i64 u, .int .i64 v] 23)).alloc (.cells #[.int .i64 a, .int .i64 b, .int .i64 c, .int .i64 d, .int .i64 k, .int .i64 f] 30)).alloc (.cells #[.int .i64 a, .int .i64 b, .int .i64 c] 29)).alloc (.cells #[.int .i64 d, .int .i64 k, .int .i64 f] 29)).drew) w.heap.size 23 #[.int .i64 i, .int .i64 x, .int .i64 y] := by (repeat' (first | ((with_reducible refine new' ?_); simp; done) | with_reducible refine Bk.alloc ?_ _ | with_reducible refine Bk.far ?_ (by dsimp only; omega) _ | with_reducible refine Bk.drewN ?_ _ | with_reducible refine Bk.drew ?_))
    have hQ : Bk ((((((w.alloc (.cells #[.int .i64 i, .int .i64 x, .int .i64 y] 23)).alloc (.cells #[.int .i64 j, .int .i64 u, .int .i64 v] 23)).alloc (.cells #[.int .i64 a, .int .i64 b, .int .i64 c, .int .i64 d, .int .i64 k, .int .i64 f] 30)).alloc (.cells #[.int .i64 a, .int .i64 b, .int .i64 c] 29)).alloc (.cells #[.int .i64 d, .int .i64 k, .int .i64 f] 29)).drew) (w.heap.size + 1) 23 #[.int .i64 j, .int .i64 u, .int .i64 v] := by (repeat' (first | ((with_reducible refine new' ?_); simp; done) | with_reducible refine Bk.alloc ?_ _ | with_reducible refine Bk.far ?_ (by dsimp only; omega) _ | with_reducible refine Bk.drewN ?_ _ | with_reducible refine Bk.drew ?_))
    have hA : Bk ((((((w.alloc (.cells #[.int .i64 i, .int .i64 x, .int .i64 y] 23)).alloc (.cells #[.int .i64 j, .int .i64 u, .int .i64 v] 23)).alloc (.cells #[.int .i64 a, .int .i64 b, .int .i64 c, .int .i64 d, .int .i64 k, .int .i64 f] 30)).alloc (.cells #[.int .i64 a, .int .i64 b, .int .i64 c] 29)).alloc (.cells #[.int .i64 d, .int .i64 k, .int .i64 f] 29)).drew) (w.heap.size + 3) 29 #[.int .i64 a, .int .i64 b, .int .i64 c] := by (repeat' (first | ((with_reducible refine new' ?_); simp; done) | with_reducible refine Bk.alloc ?_ _ | with_reducible refine Bk.far ?_ (by dsimp only; omega) _ | with_reducible refine Bk.drewN ?_ _ | with_reducible refine Bk.drew ?_))
    have hB : Bk ((((((w.alloc (.cells #[.int .i64 i, .int .i64 x, .int .i64 y] 23)).alloc (.cells #[.int .i64 j, .int .i64 u, .int .i64 v] 23)).alloc (.cells #[.int .i64 a, .int .i64 b, .int .i64 c, .int .i64 d, .int .i64 k, .int .i64 f] 30)).alloc (.cells #[.int .i64 a, .int .i64 b, .int .i64 c] 29)).alloc (.cells #[.int .i64 d, .int .i64 k, .int .i64 f] 29)).drew) (w.heap.size + 4) 29 #[.int .i64 d, .int .i64 k, .int .i64 f] := by (repeat' (first | ((with_reducible refine new' ?_); simp; done) | with_reducible refine Bk.alloc ?_ _ | with_reducible refine Bk.far ?_ (by dsimp only; omega) _ | with_reducible refine Bk.drewN ?_ _ | with_reducible refine Bk.drew ?_))
    have hf0 : Fr Nil w ((((((w.alloc (.cells #[.int .i64 i, .int .i64 x, .int .i64 y] 23)).alloc (.cells #[.int .i64 j, .int .i64 u, .int .i64 v] 23)).alloc (.cells #[.int .i64 a, .int .i64 b, .int .i64 c, .int .i64 d, .int .i64 k, .int .i64 f] 30)).alloc (.cells #[.int .i64 a, .int .i64 b, .int .i64 c] 29)).alloc (.cells #[.int .i64 d, .int .i64 k, .int .i64 f] 29)).drew) := by (repeat' (with_reducible first | refine Fr.setCell ?_ (fun hlt => absurd hlt (by dsimp only; omega)) _ | refine Fr.alloc ?_ _ | refine Fr.drewN ?_ _ | refine Fr.drew ?_ | exact Fr.refl _ _))
    generalize (((((w.alloc (.cells #[.int .i64 i, .int .i64 x, .int .i64 y] 23)).alloc (.cells #[.int .i64 j, .int .i64 u, .int .i64 v] 23)).alloc (.cells #[.int .i64 a, .int .i64 b, .int .i64 c, .int .i64 d, .int .i64 k, .int .i64 f] 30)).alloc (.cells #[.int .i64 a, .int .i64 b, .int .i64 c] 29)).alloc (.cells #[.int .i64 d, .int .i64 k, .int .i64 f] 29)).drew = W0 at hP hQ hA hB hf0 ⊢
    obtain ⟨p1, p2, p3⟩ := quiet_c3 (S := Nil) hP id
    obtain ⟨q1, q2, q3⟩ := quiet_c3 (S := Nil) hQ id
    obtain ⟨r1, r2, r3⟩ := quiet_c3 (S := Nil) hA id
    obtain ⟨s1, s2, s3⟩ := quiet_c3 (S := Nil) hB id
    refine wp_region_quiet_fr Nil (by kernel_rfl) (by kernel_rfl) ?_
    repeat (go_big_quiet_step (first
      | (go_at_call 13; with_reducible exact quiet_call (KG.out _))
      | (go_at_call 14; with_reducible exact quiet_call (KRG.out _))
      | (go_at_call 15; with_reducible exact quiet_call (KF.out _))
      | (go_at_call 16; with_reducible exact quiet_call (KRF.out _))
      | (go_at_call 17; with_reducible exact quiet_call (KC.out _))
      | (go_at_call 19; with_reducible exact quiet_call (KU.out _))
      | (go_at_call 18; first | with_reducible exact quiet_call (KT1.out _) | with_reducible exact quiet_call (KT2.out _))))
    refine wpQuiet_nil ?_
    intro _ hw'
    obtain ⟨⟨wq, hfq⟩, hw''⟩ := hw'
    subst hw''
    clear p1 p2 p3 q1 q2 q3 r1 r2 r3 s1 s2 s3
    have hA := c3' hA hfq
    have hB := c3' hB hfq
    have hf1 := hf0.trans hfq
    clear hfq hf0 hP hQ
    go_wp2_with fail
    obtain ⟨r1, r2, r3⟩ := quiet_c3 (S := Nil) hA id
    obtain ⟨s1, s2, s3⟩ := quiet_c3 (S := Nil) hB id
    refine wp_region_quiet_fr Nil (by kernel_rfl) (by kernel_rfl) ?_
    repeat (go_big_quiet_step (first
      | (go_at_call 20; with_reducible exact quiet_call (KO.out _))
      | (go_at_call 21; with_reducible exact quiet_call (KE.out _))
      | (go_at_call 18; first | with_reducible exact quiet_call (KT3.out _) | with_reducible exact quiet_call (KT4.out _))
      | (go_at_call 11; with_reducible exact quiet_call (lives_any _))))
    refine wpQuiet_nil ?_
    intro _ hw'
    obtain ⟨⟨wz, hfz⟩, hw''⟩ := hw'
    subst hw''
    go_wp2_with fail
    exact bodyPost_ret (v := .bool true) (by simp [results, Try.results5, go_sem]) rfl ⟨rfl, hf1.trans hfz⟩
  · go_wp2_with fail
    have hP : Bk ((((((w.alloc (.cells #[.int .i64 i, .int .i64 x, .int .i64 y] 23)).alloc (.cells #[.int .i64 j, .int .i64 u, .int .i64 v] 23)).alloc (.cells #[.int .i64 a, .int .i64 b, .int .i64 c, .int .i64 d, .int .i64 k, .int .i64 f] 30)).alloc (.cells #[.int .i64 d, .int .i64 k, .int .i64 f] 29)).alloc (.cells #[.int .i64 a, .int .i64 b, .int .i64 c] 29)).drew) w.heap.size 23 #[.int .i64 i, .int .i64 x, .int .i64 y] := by (repeat' (first | ((with_reducible refine new' ?_); simp; done) | with_reducible refine Bk.alloc ?_ _ | with_reducible refine Bk.far ?_ (by dsimp only; omega) _ | with_reducible refine Bk.drewN ?_ _ | with_reducible refine Bk.drew ?_))
    have hQ : Bk ((((((w.alloc (.cells #[.int .i64 i, .int .i64 x, .int .i64 y] 23)).alloc (.cells #[.int .i64 j, .int .i64 u, .int .i64 v] 23)).alloc (.cells #[.int .i64 a, .int .i64 b, .int .i64 c, .int .i64 d, .int .i64 k, .int .i64 f] 30)).alloc (.cells #[.int .i64 d, .int .i64 k, .int .i64 f] 29)).alloc (.cells #[.int .i64 a, .int .i64 b, .int .i64 c] 29)).drew) (w.heap.size + 1) 23 #[.int .i64 j, .int .i64 u, .int .i64 v] := by (repeat' (first | ((with_reducible refine new' ?_); simp; done) | with_reducible refine Bk.alloc ?_ _ | with_reducible refine Bk.far ?_ (by dsimp only; omega) _ | with_reducible refine Bk.drewN ?_ _ | with_reducible refine Bk.drew ?_))
    have hA : Bk ((((((w.alloc (.cells #[.int .i64 i, .int .i64 x, .int .i64 y] 23)).alloc (.cells #[.int .i64 j, .int .i64 u, .int .i64 v] 23)).alloc (.cells #[.int .i64 a, .int .i64 b, .int .i64 c, .int .i64 d, .int .i64 k, .int .i64 f] 30)).alloc (.cells #[.int .i64 d, .int .i64 k, .int .i64 f] 29)).alloc (.cells #[.int .i64 a, .int .i64 b, .int .i64 c] 29)).drew) (w.heap.size + 4) 29 #[.int .i64 a, .int .i64 b, .int .i64 c] := by (repeat' (first | ((with_reducible refine new' ?_); simp; done) | with_reducible refine Bk.alloc ?_ _ | with_reducible refine Bk.far ?_ (by dsimp only; omega) _ | with_reducible refine Bk.drewN ?_ _ | with_reducible refine Bk.drew ?_))
    have hB : Bk ((((((w.alloc (.cells #[.int .i64 i, .int .i64 x, .int .i64 y] 23)).alloc (.cells #[.int .i64 j, .int .i64 u, .int .i64 v] 23)).alloc (.cells #[.int .i64 a, .int .i64 b, .int .i64 c, .int .i64 d, .int .i64 k, .int .i64 f] 30)).alloc (.cells #[.int .i64 d, .int .i64 k, .int .i64 f] 29)).alloc (.cells #[.int .i64 a, .int .i64 b, .int .i64 c] 29)).drew) (w.heap.size + 3) 29 #[.int .i64 d, .int .i64 k, .int .i64 f] := by (repeat' (first | ((with_reducible refine new' ?_); simp; done) | with_reducible refine Bk.alloc ?_ _ | with_reducible refine Bk.far ?_ (by dsimp only; omega) _ | with_reducible refine Bk.drewN ?_ _ | with_reducible refine Bk.drew ?_))
    have hf0 : Fr Nil w ((((((w.alloc (.cells #[.int .i64 i, .int .i64 x, .int .i64 y] 23)).alloc (.cells #[.int .i64 j, .int .i64 u, .int .i64 v] 23)).alloc (.cells #[.int .i64 a, .int .i64 b, .int .i64 c, .int .i64 d, .int .i64 k, .int .i64 f] 30)).alloc (.cells #[.int .i64 d, .int .i64 k, .int .i64 f] 29)).alloc (.cells #[.int .i64 a, .int .i64 b, .int .i64 c] 29)).drew) := by (repeat' (with_reducible first | refine Fr.setCell ?_ (fun hlt => absurd hlt (by dsimp only; omega)) _ | refine Fr.alloc ?_ _ | refine Fr.drewN ?_ _ | refine Fr.drew ?_ | exact Fr.refl _ _))
    generalize (((((w.alloc (.cells #[.int .i64 i, .int .i64 x, .int .i64 y] 23)).alloc (.cells #[.int .i64 j, .int .i64 u, .int .i64 v] 23)).alloc (.cells #[.int .i64 a, .int .i64 b, .int .i64 c, .int .i64 d, .int .i64 k, .int .i64 f] 30)).alloc (.cells #[.int .i64 d, .int .i64 k, .int .i64 f] 29)).alloc (.cells #[.int .i64 a, .int .i64 b, .int .i64 c] 29)).drew = W0 at hP hQ hA hB hf0 ⊢
    obtain ⟨p1, p2, p3⟩ := quiet_c3 (S := Nil) hP id
    obtain ⟨q1, q2, q3⟩ := quiet_c3 (S := Nil) hQ id
    obtain ⟨r1, r2, r3⟩ := quiet_c3 (S := Nil) hA id
    obtain ⟨s1, s2, s3⟩ := quiet_c3 (S := Nil) hB id
    refine wp_region_quiet_fr Nil (by kernel_rfl) (by kernel_rfl) ?_
    repeat (go_big_quiet_step (first
      | (go_at_call 13; with_reducible exact quiet_call (KG.out _))
      | (go_at_call 14; with_reducible exact quiet_call (KRG.out _))
      | (go_at_call 15; with_reducible exact quiet_call (KF.out _))
      | (go_at_call 16; with_reducible exact quiet_call (KRF.out _))
      | (go_at_call 17; with_reducible exact quiet_call (KC.out _))
      | (go_at_call 19; with_reducible exact quiet_call (KU.out _))
      | (go_at_call 18; first | with_reducible exact quiet_call (KT1.out _) | with_reducible exact quiet_call (KT2.out _))))
    refine wpQuiet_nil ?_
    intro _ hw'
    obtain ⟨⟨wq, hfq⟩, hw''⟩ := hw'
    subst hw''
    clear p1 p2 p3 q1 q2 q3 r1 r2 r3 s1 s2 s3
    have hA := c3' hA hfq
    have hB := c3' hB hfq
    have hf1 := hf0.trans hfq
    clear hfq hf0 hP hQ
    go_wp2_with fail
    obtain ⟨r1, r2, r3⟩ := quiet_c3 (S := Nil) hA id
    obtain ⟨s1, s2, s3⟩ := quiet_c3 (S := Nil) hB id
    refine wp_region_quiet_fr Nil (by kernel_rfl) (by kernel_rfl) ?_
    repeat (go_big_quiet_step (first
      | (go_at_call 20; with_reducible exact quiet_call (KO.out _))
      | (go_at_call 21; with_reducible exact quiet_call (KE.out _))
      | (go_at_call 18; first | with_reducible exact quiet_call (KT3.out _) | with_reducible exact quiet_call (KT4.out _))
      | (go_at_call 11; with_reducible exact quiet_call (lives_any _))))
    refine wpQuiet_nil ?_
    intro _ hw'
    obtain ⟨⟨wz, hfz⟩, hw''⟩ := hw'
    subst hw''
    go_wp2_with fail
    exact bodyPost_ret (v := .bool true) (by simp [results, Try.results5, go_sem]) rfl ⟨rfl, hf1.trans hfz⟩
end Go.Proofs.Ytpngeaklfjofiaa.KernH
