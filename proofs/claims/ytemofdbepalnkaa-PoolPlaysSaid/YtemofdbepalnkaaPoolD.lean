/- Chapter 6: what is told of no pool; Take of a pool; lives; the walk of the law PoolNone. -/
import Derived.Test.YtemofdbepalnkaaPoolC
namespace Go.Proofs.Ytemofdbepalnkaa.PoolD
open Go.RowKit Base Slices Quiet TrapA TrapB TrapG TrapV PoolA PoolB PoolC
set_option linter.unusedVariables false
set_option linter.unusedSimpArgs false

section
variable (w : World)
theorem Len_none : Calls Try.prog 11 #[.pointer none] w fun e w' => e = .returned (.int .i64 0) ∧ Fr Nil w w' := by
  go_enter Try.func11, Try.ntmps11
  go_wp2_with fail
  exact bodyPost_ret (v := .int .i64 0) (by simp [results, Try.results11, go_sem]) rfl ⟨rfl, by (repeat' (with_reducible first | refine Fr.setCell ?_ (fun hlt => absurd hlt (by dsimp only; omega)) _ | refine Fr.alloc ?_ _ | refine Fr.drewN ?_ _ | refine Fr.drew ?_ | exact Fr.refl _ _))⟩
theorem room_none : Calls Try.prog 29 #[.pointer none] w fun e w' => e = .returned (.int .i64 0) ∧ Fr Nil w w' := by
  go_enter Try.func29, Try.ntmps29
  go_wp2_with fail
  exact bodyPost_ret (v := .int .i64 0) (by simp [results, Try.results29, go_sem]) rfl ⟨rfl, by (repeat' (with_reducible first | refine Fr.setCell ?_ (fun hlt => absurd hlt (by dsimp only; omega)) _ | refine Fr.alloc ?_ _ | refine Fr.drewN ?_ _ | refine Fr.drew ?_ | exact Fr.refl _ _))⟩
theorem Room_none : Calls Try.prog 13 #[.pointer none] w fun e w' => e = .returned (.int .i64 0) ∧ Fr Nil w w' := by
  go_enter Try.func13, Try.ntmps13
  go_wp2_with fail
  refine (room_none _).mono ?_
  rintro e w1 ⟨rfl, hf⟩
  go_wp2_with fail
  exact bodyPost_ret (v := .int .i64 0) (by simp [results, Try.results13, go_sem]) rfl ⟨rfl, hf⟩
theorem All_none : Calls Try.prog 14 #[.pointer none] w fun e w' => e = .returned (.slice none 0 0) ∧ Fr Nil w w' := by
  go_enter Try.func14, Try.ntmps14
  go_wp2_with fail
  exact bodyPost_ret (v := .slice none 0 0) (by simp [results, Try.results14, go_sem]) rfl ⟨rfl, by (repeat' (with_reducible first | refine Fr.setCell ?_ (fun hlt => absurd hlt (by dsimp only; omega)) _ | refine Fr.alloc ?_ _ | refine Fr.drewN ?_ _ | refine Fr.drew ?_ | exact Fr.refl _ _))⟩
theorem Reserve_none : Calls Try.prog 19 #[.pointer none, .int .i64 0] w fun e w' => e = .returned (.int .i64 1) ∧ Fr Nil w w' := by
  go_enter Try.func19, Try.ntmps19
  go_wp2_with fail
  exact bodyPost_ret (v := .int .i64 1) (by simp [results, Try.results19, go_sem]) rfl ⟨rfl, by (repeat' (with_reducible first | refine Fr.setCell ?_ (fun hlt => absurd hlt (by dsimp only; omega)) _ | refine Fr.alloc ?_ _ | refine Fr.drewN ?_ _ | refine Fr.drew ?_ | exact Fr.refl _ _))⟩
theorem Clear_none : Calls Try.prog 17 #[.pointer none] w fun e w' => e = .returned (.tuple #[]) ∧ Fr Nil w w' := by
  go_enter Try.func17, Try.ntmps17
  go_wp2_with fail
  go_end0
  exact ⟨rfl, by (repeat' (with_reducible first | refine Fr.setCell ?_ (fun hlt => absurd hlt (by dsimp only; omega)) _ | refine Fr.alloc ?_ _ | refine Fr.drewN ?_ _ | refine Fr.drew ?_ | exact Fr.refl _ _))⟩

/-- Take of a pool that has a node given -/
theorem Take_reuse {g k : Nat} {v : Value} {l : List Slot} {n x : Int} {most : Nat} {p : Slot} (h : Pl w g v l ((k : Int) + 1) n most) (hp : l[k]? = some p) (hl : l.length ≤ 1048576) (hn : -1048576 ≤ n ∧ n ≤ 1048576) :
    Calls Try.prog 8 #[.pointer (some ⟨g, 0, none⟩), .int .i64 x] w fun e w' => e = .returned (.tuple #[.int .i64 ((k : Int) + 1), .int .i64 0]) ∧ Fr (Foot g v) w w' ∧ Held w g v (l.set k (x, 0, true)) p.2.1 (n + 1) most w' :=
  Take_of w h fun W hW => take_of W (fresh_reuse W (h.nil hW) hp hl) (List.getElem?_eq_some_iff.1 hp).1 hl hn (h.nil hW).1.lt
/-- Take of a pool that has none given, and room -/
theorem Take_new {g : Nat} {v : Value} {l : List Slot} {n x : Int} {most : Nat} (h : Pl w g v l 0 n most) (hm : l.length < most) (hl : l.length ≤ 900000) (hn : -1048576 ≤ n ∧ n ≤ 1048576) :
    Calls Try.prog 8 #[.pointer (some ⟨g, 0, none⟩), .int .i64 x] w fun e w' => e = .returned (.tuple #[.int .i64 ((l.length : Int) + 1), .int .i64 0]) ∧ Fr (Foot g v) w w' ∧ Held w g v (l ++ [(x, 0, true)]) 0 (n + 1) most w' := by
  have e : (l ++ [((0, 0, false) : Slot)]).set l.length (x, 0, true) = l ++ [(x, 0, true)] := by simp
  rw [← e]
  exact Take_of w h fun W hW => take_of W (fresh_new W (h.nil hW) hm hl) (by simp) (by simp; omega) hn (h.nil hW).1.lt

set_option maxHeartbeats 4000000 in
theorem lives_any : Calls Try.prog 9 #[] w fun e w' => e = .returned (.bool true) ∧ Fr Nil w w' := by
  go_enter Try.func9, Try.ntmps9
  go_wp2_with fail
  refine (New_ok w 3 (by decide) (by decide)).mono ?_
  rintro e w1 ⟨rfl, hf1, hs1⟩
  have HF1 := Lib.hid hf1
  have HS1 := Lib.hid hs1
  clear hf1 hs1
  go_wp2_with fail
  refine (Take_new w1 (x := 7) HS1.out (by decide) (by decide) (by decide)).mono ?_
  rintro e w2 ⟨rfl, hf2, v2, hs2, hm2⟩
  have HF2 := Lib.hid (HF1.out.then hf2 (by rintro i (rfl | hi) hlt <;> first | exact absurd hlt (Nat.lt_irrefl _) | cases hi))
  have HB2 := Lib.hid (show ∀ k, Foot w.heap.size v2 k → w.heap.size ≤ k from fun k hk => by
    rcases hk with rfl | hk
    · exact Nat.le_refl _
    · rcases hm2 k hk with e | e
      · cases e
      · exact Nat.le_trans HF1.out.size e)
  have HS2 := Lib.hid hs2
  clear hf2 hs2 hm2
  go_wp2_with fail
  refine (Give_ok w2 (k := 0) (p := (7, 0, true)) HS2.out rfl rfl (by decide) (by decide)).mono ?_
  rintro e w3 ⟨rfl, hf3, v3, hs3, hm3⟩
  have HF3 := Lib.hid (HF2.out.then hf3 (fun i hi hlt => absurd (HB2.out i hi) (by omega)))
  have HB3 := Lib.hid (show ∀ k, Foot w.heap.size v3 k → w.heap.size ≤ k from fun k hk => by
    rcases hk with rfl | hk
    · exact Nat.le_refl _
    · rcases hm3 k hk with e | e
      · exact HB2.out k (Or.inr e)
      · exact Nat.le_trans HF2.out.size e)
  have HS3 := Lib.hid hs3
  clear hf3 hs3 hm3
  go_wp2_with fail
  refine (Take_reuse w3 (k := 0) (x := 8) (p := (0, 0, false)) HS3.out rfl (by decide) (by decide)).mono ?_
  rintro e w4 ⟨rfl, hf4, v4, hs4, hm4⟩
  have HF4 := Lib.hid (HF3.out.then hf4 (fun i hi hlt => absurd (HB3.out i hi) (by omega)))
  have HS4 := Lib.hid hs4
  clear hf4 hs4 hm4
  go_wp2_with fail
  refine (Get_ok w4 (k := 0) (p := (8, 0, true)) HS4.out rfl rfl (by decide)).mono ?_
  rintro e w5 ⟨rfl, hf5⟩
  have HF5 := Lib.hid (HF4.out.trans hf5)
  clear hf5
  go_wp2_with fail
  exact bodyPost_ret (v := .bool true) (by simp [results, Try.results9, go_sem]) rfl ⟨rfl, HF5.out⟩

set_option maxHeartbeats 4000000 in
theorem none_any (a b c : Int) : Calls Try.prog 5 #[.agg #[.int .i64 a, .int .i64 b, .int .i64 c]] w fun e w' => e = .returned (.bool true) ∧ Fr Nil w w' := by
  go_enter Try.func5, Try.ntmps5
  go_wp2_with fail
  refine (Take_none _ c).mono ?_
  rintro e w1 ⟨rfl, hf1⟩
  have hB : Bk w1 w.heap.size 29 #[.int .i64 a, .int .i64 b, .int .i64 c] := Bk.fr (S := Nil) (by (repeat' (first | ((with_reducible refine new' ?_); simp; done) | with_reducible refine Bk.alloc ?_ _ | with_reducible refine Bk.far ?_ (by dsimp only; omega) _ | with_reducible refine Bk.drewN ?_ _ | with_reducible refine Bk.drew ?_))) hf1 id
  have g1 : Fr Nil w w1 := Fr.trans (by (repeat' (with_reducible first | refine Fr.setCell ?_ (fun hlt => absurd hlt (by dsimp only; omega)) _ | refine Fr.alloc ?_ _ | refine Fr.drewN ?_ _ | refine Fr.drew ?_ | exact Fr.refl _ _))) hf1
  clear hf1
  obtain ⟨c0, c1, c2, _, _, _⟩ := hB.c3
  go_wp2_with fail
  refine (Get_none _ b).mono ?_
  rintro e w2 ⟨rfl, hf2⟩
  have hB := hB.fr hf2 id
  have g2 := g1.trans hf2
  clear hf2 g1 c0 c1 c2
  go_wp2_with fail
  refine (Clear_none _).mono ?_
  rintro e w3 ⟨rfl, hf3⟩
  have hB := hB.fr hf3 id
  have g3 := g2.trans hf3
  clear hf3 g2
  obtain ⟨c0, c1, c2, _, _, _⟩ := hB.c3
  go_wp2_with fail
  refine (Give_none _ b).mono ?_
  rintro e w4 ⟨rfl, hf4⟩
  have hB := hB.fr hf4 id
  have g4 := g3.trans hf4
  clear hf4 g3 c0 c1 c2
  obtain ⟨c0, c1, c2, _, _, _⟩ := hB.c3
  go_wp2_with fail
  refine (Set_none _ b 1).mono ?_
  rintro e w5 ⟨rfl, hf5⟩
  have g5 := g4.trans hf5
  clear hf5 g4 c0 c1 c2
  go_wp2_with fail
  refine (Len_none _).mono ?_
  rintro e w6 ⟨rfl, hf6⟩
  have g6 := g5.trans hf6
  clear hf6 g5
  go_wp2_with fail
  refine (Room_none _).mono ?_
  rintro e w7 ⟨rfl, hf7⟩
  have g7 := g6.trans hf7
  clear hf7 g6
  go_wp2_with fail
  refine (All_none _).mono ?_
  rintro e w8 ⟨rfl, hf8⟩
  have g8 := g7.trans hf8
  clear hf8 g7
  go_wp2_with fail
  refine (Reserve_none _).mono ?_
  rintro e w9 ⟨rfl, hf9⟩
  have g9 := g8.trans hf9
  clear hf9 g8
  go_wp2_with fail
  refine (lives_any _).mono ?_
  rintro e w10 ⟨rfl, hf10⟩
  have g10 := g9.trans hf10
  clear hf10 g9
  go_wp2_with fail
  exact bodyPost_ret (v := .bool true) (by simp [results, Try.results5, go_sem]) rfl ⟨rfl, g10⟩
end
end Go.Proofs.Ytemofdbepalnkaa.PoolD
