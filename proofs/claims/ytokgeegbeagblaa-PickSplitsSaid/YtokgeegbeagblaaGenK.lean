/- Chapter 8: the walk of the law PickSteps. -/
import Derived.Test.YtokgeegbeagblaaGenJ
namespace Go.Proofs.Ytokgeegbeagblaa.GenK
open Go.RowKit Base SortA SortB SortC SortD SortE SortG SortI SortK PickA PickC GenA GenC GenD GenF GenH GenI GenJ Quiet
set_option linter.unusedVariables false
set_option linter.unusedSimpArgs false

/-- how many steps are told -/
def stp (n : Int) : Int := if n < 1 then 0 else if 1048576 < n then 52429000 else 50 * n + 200
theorem steps_any (n : Int) (w : World) : Calls Try.prog 10 #[.int .i64 n] w fun e w' => e = .returned (.int .i64 (stp n)) ∧ Fr Nil w w' := by
  by_cases h1 : n < 1
  · have e : stp n = 0 := by unfold stp; rw [if_pos h1]
    rw [e]
    go_enter Try.func10, Try.ntmps10
    go_wp2
    go_ret
    exact ⟨rfl, by (repeat' (with_reducible first | refine Fr.setCell ?_ (fun hlt => absurd hlt (by dsimp only; omega)) _ | refine Fr.alloc ?_ _ | refine Fr.drewN ?_ _ | refine Fr.drew ?_ | exact Fr.refl _ _))⟩
  · have h2 : 1 ≤ n := by omega
    by_cases h3 : 1048576 < n
    · have e : stp n = 52429000 := by unfold stp; rw [if_neg h1, if_pos h3]
      have h4 : ¬ n < 1048576 := by omega
      have h5 : 1048576 ≤ n := by omega
      rw [e]
      go_enter Try.func10, Try.ntmps10
      go_wp2
      go_ret
      exact ⟨rfl, by (repeat' (with_reducible first | refine Fr.setCell ?_ (fun hlt => absurd hlt (by dsimp only; omega)) _ | refine Fr.alloc ?_ _ | refine Fr.drewN ?_ _ | refine Fr.drew ?_ | exact Fr.refl _ _))⟩
    · have e : stp n = 50 * n + 200 := by unfold stp; rw [if_neg h1, if_neg h3]
      rw [e]
      rcases Int.lt_or_eq_of_le (show n ≤ 1048576 by omega) with h5 | rfl
      · have h6 : n ≤ 1048576 := by omega
        clear e
        go_enter Try.func10, Try.ntmps10
        go_wp2
        go_ret
        exact ⟨rfl, by (repeat' (with_reducible first | refine Fr.setCell ?_ (fun hlt => absurd hlt (by dsimp only; omega)) _ | refine Fr.alloc ?_ _ | refine Fr.drewN ?_ _ | refine Fr.drew ?_ | exact Fr.refl _ _))⟩
      · go_enter Try.func10, Try.ntmps10
        go_wp2
        go_ret
        exact ⟨rfl, by (repeat' (with_reducible first | refine Fr.setCell ?_ (fun hlt => absurd hlt (by dsimp only; omega)) _ | refine Fr.alloc ?_ _ | refine Fr.drewN ?_ _ | refine Fr.drew ?_ | exact Fr.refl _ _))⟩
theorem refsteps_any (n : Int) (w : World) : Calls Try.prog 11 #[.int .i64 n] w fun e w' => e = .returned (.int .i64 (stp n)) ∧ Fr Nil w w' := by
  by_cases h1 : n < 1
  · have e : stp n = 0 := by unfold stp; rw [if_pos h1]
    rw [e]
    go_enter Try.func11, Try.ntmps11
    go_wp2
    go_ret
    exact ⟨rfl, by (repeat' (with_reducible first | refine Fr.setCell ?_ (fun hlt => absurd hlt (by dsimp only; omega)) _ | refine Fr.alloc ?_ _ | refine Fr.drewN ?_ _ | refine Fr.drew ?_ | exact Fr.refl _ _))⟩
  · have h2 : 1 ≤ n := by omega
    by_cases h3 : 1048576 < n
    · have e : stp n = 52429000 := by unfold stp; rw [if_neg h1, if_pos h3]
      rw [e]
      go_enter Try.func11, Try.ntmps11
      go_wp2
      go_ret
      exact ⟨rfl, by (repeat' (with_reducible first | refine Fr.setCell ?_ (fun hlt => absurd hlt (by dsimp only; omega)) _ | refine Fr.alloc ?_ _ | refine Fr.drewN ?_ _ | refine Fr.drew ?_ | exact Fr.refl _ _))⟩
    · have e : stp n = 50 * n + 200 := by unfold stp; rw [if_neg h1, if_neg h3]
      have h4 : n ≤ 1048576 := by omega
      rw [e]
      clear e
      go_enter Try.func11, Try.ntmps11
      go_wp2
      go_ret
      exact ⟨rfl, by (repeat' (with_reducible first | refine Fr.setCell ?_ (fun hlt => absurd hlt (by dsimp only; omega)) _ | refine Fr.alloc ?_ _ | refine Fr.drewN ?_ _ | refine Fr.drew ?_ | exact Fr.refl _ _))⟩

/-- no middle takes more steps than are told -/
theorem steps_le {m : Nat} {len : Nat} (h : m = 0 ∨ (0 < len ∧ len ≤ 120 ∧ m ≤ nb len + 2 * len)) : (m : Int) ≤ stp len := by
  unfold stp
  rcases h with rfl | ⟨h0, h1, h2⟩
  · split
    · omega
    · split <;> omega
  · unfold nb at h2
    rw [if_neg (by omega), if_neg (by omega)]
    split at h2 <;> omega

theorem few_own (l : List Pr) (v : Value) (w : World) (hl : l.length ≤ 120) (hv : Sl w v l) :
    Calls Try.prog 7 #[v] w fun e w' => ∃ u, e = .returned u ∧ Fr Nil w w' ∧ SortD.Own w' w.heap.size u l := by
  have h := few_any l v w (by unfold maxLen; omega) (by
    rcases hv with h | ⟨g, o, cap, rfl, hc, ha, hr⟩
    · exact Or.inl h
    · exact Or.inr ⟨_, cap, rfl, hc, hr.flat⟩)
  rw [List.take_of_length_le hl] at h
  exact h.mono fun e w' ⟨u, he, hf, ho, _⟩ => ⟨u, he, hf, ho⟩
/-- what a call of Nth leaves in the counter -/
theorem Nth_counts (c : Nat) (l : List Pr) (k : Int) (v : Value) (w : World) (hl : l.length ≤ 120) (hv : Slx (fun k => k = c) w v l) (hc : Count c 0 w) :
    Calls Try.prog 8 #[v, .int .i64 k, lessG 9 #[.pointer (some ⟨c, 0, none⟩)]] w fun e w' => ∃ u m, e = .returned u ∧ Fr (fun k => k = c) w w' ∧ Count c m w' ∧ (m : Int) ≤ stp l.length := by
  by_cases h : 0 ≤ k ∧ k < l.length
  · obtain ⟨j, rfl⟩ := Int.eq_ofNat_of_zero_le h.1
    refine (Nth_ok (counting c) 0 l j v 0 w (by omega) (by omega) (by unfold nb; split <;> omega) hv ⟨0, Nat.le_refl _, hc⟩).mono fun e w' ⟨x, h1, _, h2, m, h3, h4⟩ => ⟨_, m, h1, h2, h4, steps_le (Or.inr ⟨by omega, hl, by omega⟩)⟩
  · obtain ⟨A, cp, rfl⟩ := Sl.shape hv.1
    exact (Nth_no (F := _) (first := _) w A l.length cp k (by omega)).mono fun e w' ⟨h1, h2⟩ => ⟨_, 0, h1, h2.of_nil, Bk.fr hc h2 id, steps_le (Or.inl rfl)⟩

set_option maxRecDepth 100000 in
set_option maxHeartbeats 4000000 in
theorem steps_law (l : List Pr) (k n : Int) (v : Value) (w : World) (hl : l.length ≤ maxLen) (hv : Come w v l) :
    Calls Try.prog 3 #[v, .int .i64 k, .int .i64 n] w fun e w' => e = .returned (.bool true) ∧ Fr Nil w w' := by
  have K1 := Lib.hid (few_any l v w hl hv)
  have hlen : (l.take 120).length ≤ 120 := by rw [List.length_take]; omega
  generalize l.take 120 = L at *
  have KF := Lib.hid (fun W u h => few_own L u W hlen h)
  have KN := Lib.hid (fun c W u h1 h2 => Nth_counts c L k u W hlen h1 h2)
  have PL := Lib.hid (fun W => lives_any W)
  have KS := Lib.hid (fun W => steps_any n W)
  have KR := Lib.hid (fun W => refsteps_any n W)
  have KL := Lib.hid (fun W => refsteps_any L.length W)
  generalize stp n = s1 at *
  generalize stp L.length = s2 at *
  clear hv hl hlen
  unfold lessG at *
  go_enter Try.func3, Try.ntmps3
  go_wp2_with fail
  refine K1.out.mono ?_
  rintro e w1 ⟨u1, rfl, hf1, ho1, hn1⟩
  have HS1 := Lib.hid (Sl.alloc ho1.sl (.cells #[.int .i64 0] 26))
  have HB := Lib.hid (Bk.new w1 26 #[.int .i64 0])
  have HW := Lib.hid hf1.size
  have F1 := Lib.hid (hf1.alloc (.cells #[.int .i64 0] 26))
  obtain ⟨A1, c1, rfl⟩ := Sl.shape ho1.sl
  clear hf1 ho1 hn1
  go_wp2_with fail
  refine (KF.out _ _ HS1.out).mono ?_
  rintro e w2 ⟨u2, rfl, hf2, ho2⟩
  have HO2 := Lib.hid (show Slx (fun k => k = w1.heap.size) w2 u2 L from ⟨ho2.sl, fun g hg e => by have h1 := (PickA.Own.lt ho2 g hg).1; simp at h1; have h2 : g = w1.heap.size := e; omega⟩)
  have HB2 := Lib.hid (HB.out.fr hf2 id)
  have F2 := Lib.hid (F1.out.trans hf2)
  clear hf2 ho2
  go_wp2_with fail
  refine (KN.out w1.heap.size _ _ HO2.out HB2.out).mono ?_
  rintro e w3 ⟨u3, m, rfl, hf3, hb3, hm⟩
  have F3 := Lib.hid (F2.out.then hf3 (fun i hi hlt => by have h2 : i = w1.heap.size := hi; have := HW.out; omega))
  have hcl := fun (p : FrW Nil w3) => (Bk.fr hb3 p.fr id).cell 0
  simp only [List.getElem?_toArray, List.getElem?_cons_zero] at hcl
  have hms : decide ((m : Int) ≤ s2) = true := decide_eq_true hm
  have hss : (s1 == s1) = true := by simp
  clear hf3 hb3 hm
  go_wp2_with fail
  refine wp_region_quiet_fr Nil (by kernel_rfl) (by kernel_rfl) ?_
  repeat (go_big_quiet_step (first
    | (go_at_call 10; with_reducible exact quiet_call (KS.out _))
    | (go_at_call 11; with_reducible exact quiet_call (KR.out _))
    | (go_at_call 11; with_reducible exact quiet_call (KL.out _))
    | (go_at_call 12; with_reducible exact quiet_call (PL.out _))))
  refine wpQuiet_nil ?_
  intro w4 hw'
  obtain ⟨⟨wq, hfq⟩, hw''⟩ := hw'
  subst hw''
  have F4 := Lib.hid (F3.out.trans hfq)
  clear hcl hfq
  go_wp2_with fail
  exact bodyPost_ret (v := .bool true) (by simp [results, Try.results3, go_sem]) rfl ⟨rfl, F4.out⟩
end Go.Proofs.Ytokgeegbeagblaa.GenK
