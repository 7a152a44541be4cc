/- Chapter 10: the walk of the law StackNone. -/
import Derived.Test.YtgibhgppfmbnaaaStackC
namespace Go.Proofs.Ytgibhgppfmbnaaa.StackD
open Go.RowKit Base Slices Quiet StackA StackB StackC TrapA TrapB TrapG
set_option linter.unusedVariables false
set_option linter.unusedSimpArgs false

set_option maxHeartbeats 4000000 in
theorem none_any (w : World) {l : List Int} {y : Value} (n : Int) (hy : Come EI w y l) (hm : l.length ≤ maxLen) : Calls Try.prog 5 #[y, .int .i64 n] w fun e w' => e = .returned (.bool true) ∧ Fr Nil w w' := by
  have HY := Lib.hid hy
  have HM := Lib.hid hm
  obtain ⟨A, c, rfl⟩ := hy.shape
  clear hy hm
  go_enter Try.func5, Try.ntmps5
  go_wp2_with fail
  refine (Pop_of _ (pop_false _ (top_none _))).mono ?_
  rintro e w1 ⟨rfl, hf1⟩
  go_wp2_with fail
  refine (Top_none _).mono ?_
  rintro e w2 ⟨rfl, hf2⟩
  go_wp2_with fail
  refine (Clear_nil _).mono ?_
  rintro e w3 ⟨rfl, hf3⟩
  go_wp2_with fail
  refine (Walk_none _ _ _ _ _).mono ?_
  rintro e w4 ⟨rfl, hf4⟩
  have g4 : Fr Nil w w4 := Fr.trans (by (repeat' (with_reducible first | refine Fr.setCell ?_ (fun hlt => absurd hlt (by dsimp only; omega)) _ | refine Fr.alloc ?_ _ | refine Fr.drewN ?_ _ | refine Fr.drew ?_ | exact Fr.refl _ _))) (((hf1.trans hf2).trans hf3).trans hf4)
  have hB : Bk w4 w.heap.size 42 #[.slice none 0 0] := Bk.fr (S := Nil) (by (repeat' (first | ((with_reducible refine new' ?_); simp; done) | with_reducible refine Bk.alloc ?_ _ | with_reducible refine Bk.far ?_ (by dsimp only; omega) _ | with_reducible refine Bk.drewN ?_ _ | with_reducible refine Bk.drew ?_))) (((hf1.trans hf2).trans hf3).trans hf4) id
  clear hf1 hf2 hf3 hf4
  go_wp2_with fail
  refine (Few_any w4 (k := 5) (HY.out.fr g4) (by decide) HM.out).mono ?_
  rintro e w5 ⟨u, rfl, hf5, ho, hu⟩
  have hs := (ho.sl EI_ok).shape
  have g5 := g4.trans hf5
  have hB5 := hB.fr hf5 id
  clear ho hu hB g4 hf5
  go_wp2_with fail
  refine (Push_none _ ?_).mono ?_
  · obtain ⟨A', c', e⟩ := hs
    exact ⟨A', _, c', e⟩
  rintro e w6 ⟨rfl, hf6⟩
  have g6 := g5.trans hf6
  have hB6 := hB5.fr hf6 id
  clear hf6 g5 hB5 hs
  go_wp2_with fail
  refine (Len_nil _).mono ?_
  rintro e w7 ⟨rfl, hf7⟩
  have g7 := g6.trans hf7
  have hB7 := hB6.fr hf7 id
  clear hf7 g6 hB6
  go_wp2_with fail
  refine (Clone_nil _).mono ?_
  rintro e w8 ⟨rfl, hf8⟩
  have g8 := g7.trans hf8
  have hB8 := hB7.fr hf8 id
  clear hf8 g7 hB7
  obtain ⟨c0, f0⟩ := hB8.c1
  go_wp2_with fail
  refine (lives_any _).mono ?_
  rintro e w9 ⟨rfl, hf9⟩
  have g9 := g8.trans hf9
  go_wp2_with fail
  exact bodyPost_ret (v := .bool true) (by simp [results, Try.results5, go_sem]) rfl ⟨rfl, g9⟩

theorem cells_int : Try.prog.cellsOf 3 = 1 := by kernel_rfl
def decI (vs : List Value) : Int := match vs with | [.int _ n] => n | _ => 0
/-- a []int that comes in -/
theorem open_ints {H : Type} {enc : TypeId × Value → H} {w : World} {base : Nat} {v : Value} {d : DataW H} {p : List MemPlace} (hv : Value.okWide Try.prog w .any base 28 v) (h : DataW.Trod enc Try.prog w 0 (fun _ => true) true 28 v d p) :
    ∃ l : List Int, Come EI w v l ∧ l.length ≤ maxLen ∧ ∀ n ∈ l, -9223372036854775808 ≤ n ∧ n ≤ 9223372036854775807 := by
  obtain ⟨l, h1, h2, h3⟩ := open_come (ks := [.i .i64]) EI_ok 9 (by kernel_rfl) cells_int decI (fun vs hvs => by
    obtain ⟨_, ws, rfl, ⟨n, rfl, _, _⟩, h⟩ := Leaf.Leafs.cons hvs
    obtain rfl : ws = [] := h
    rfl) hv h
  refine ⟨l, h1, h2, fun n hn => ?_⟩
  obtain ⟨vs, hvs, rfl⟩ := h3 n hn
  obtain ⟨_, ws, rfl, ⟨n, rfl, b0, b1⟩, h⟩ := Leaf.Leafs.cons hvs
  obtain rfl : ws = [] := h
  have e : IntKind.i64.min = -9223372036854775808 ∧ IntKind.i64.max = 9223372036854775807 := by decide
  show -9223372036854775808 ≤ n ∧ n ≤ 9223372036854775807
  omega
end Go.Proofs.Ytgibhgppfmbnaaa.StackD
