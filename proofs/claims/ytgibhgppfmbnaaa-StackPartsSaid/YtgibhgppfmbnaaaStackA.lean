/- Chapter 10: what a stack is in memory; New, Len, Clear, and what is told of no stack. -/
import Derived.Test.YtgibhgppfmbnaaaSlices
import Derived.Test.YtgibhgppfmbnaaaTrapG
import Derived.Test.YtgibhgppfmbnaaaQuiet
import Derived.Test.YtgibhgppfmbnaaaChecked
import Derived.RegionTactic
import Derived.BigRegion
namespace Go.Proofs.Ytgibhgppfmbnaaa.StackA
open Go.RowKit Base Slices Quiet
set_option linter.unusedVariables false
set_option linter.unusedSimpArgs false

/-- ints as elements -/
def EI : El Int := { ty := 3, sl := 28, size := 1, bytes := 8, cells := fun n => [.int .i64 n] }
theorem info_int : (Try.prog.info? 3).map (fun i => (i.zero, i.size, i.bytes)) = some (some (.int .i64 0), 1, 8) := by kernel_rfl
theorem EI_ok : EI.Ok Try.prog := by
  obtain ⟨i0, hi, hz0, hz1, hz2⟩ := info_parts info_int
  exact ⟨Try.underlying28, ⟨i0, _, hi, hz0, hz1, hz2, rfl⟩, by decide, by decide, fun _ => rfl, fun a u hu => by simp [EI] at hu; subst hu; rfl⟩

/-- A stack: its block, the slice in it, its elements (the uppermost one last), how many there may be. -/
def Stk (w : World) (g : Nat) (v : Value) (l : List Int) (most : Nat) : Prop := Bk w g 49 #[v, .int .i64 most] ∧ Own EI w 0 v l
/-- the blocks of a stack -/
def Foot (g : Nat) (v : Value) : Nat → Prop := fun k => k = g ∨ v.ownBlock = some k
/-- behind a call the slice lies where it lay, or is new -/
def Moved (w : World) (v v' : Value) : Prop := ∀ k, v'.ownBlock = some k → v.ownBlock = some k ∨ w.heap.size ≤ k

theorem Stk.fr {w w' : World} {g : Nat} {v : Value} {l : List Int} {most : Nat} {S : Nat → Prop} (h : Stk w g v l most) (hf : Fr S w w') (hs : ∀ k, Foot g v k → ¬ S k) : Stk w' g v l most :=
  ⟨h.1.fr hf (hs g (Or.inl rfl)), h.2.fr hf fun k hk => hs k (Or.inr hk)⟩
theorem Stk.nil {w w' : World} {g : Nat} {v : Value} {l : List Int} {most : Nat} (h : Stk w g v l most) (hf : Fr Nil w w') : Stk w' g v l most := h.fr hf fun _ _ s => s
theorem Stk.lt {w : World} {g : Nat} {v : Value} {l : List Int} {most : Nat} (h : Stk w g v l most) : ∀ k, Foot g v k → k < w.heap.size := by
  rintro k (rfl | hk)
  · exact h.1.lt
  · exact (h.2.lt k hk).2
/-- the row is not the stack's own block -/
theorem Stk.apart {w : World} {g : Nat} {v : Value} {l : List Int} {most : Nat} (h : Stk w g v l most) {k : Nat} (hk : v.ownBlock = some k) : k ≠ g := by
  rcases h.2.2 with ⟨rfl, _⟩ | ⟨g', cap, cur, rfl, hb, hg, hr⟩
  · cases hk
  · simp [Value.ownBlock] at hk
    subst hk
    exact Bk.apart (t := 3) (t' := 49) hg h.1 (by decide)

section
variable (w : World)
set_option maxHeartbeats 1000000 in
theorem New_ok (most : Nat) (h1 : 1 ≤ most) (h2 : most ≤ 65536) : Calls Try.prog 6 #[.int .i64 (most : Int)] w fun e w' => e = .returned (.tuple #[.pointer (some ⟨w.heap.size, 0, none⟩), .int .i64 0]) ∧ Fr Nil w w' ∧ Stk w' w.heap.size (.slice none 0 0) [] most := by
  have h1' : (1 : Int) ≤ most := by omega
  have h2' : (most : Int) ≤ 65536 := by omega
  go_enter Try.func6, Try.ntmps6
  go_wp2_with fail
  exact bodyPost_ret (v := .tuple #[.pointer (some ⟨w.heap.size, 0, none⟩), .int .i64 0]) (by simp [results, Try.results6, go_sem]) rfl ⟨rfl, by (repeat' (with_reducible first | refine Fr.setCell ?_ (fun hlt => absurd hlt (by dsimp only; omega)) _ | refine Fr.alloc ?_ _ | refine Fr.drewN ?_ _ | refine Fr.drew ?_ | exact Fr.refl _ _)), Bk.new _ _ _, Own.nil _ _⟩
set_option maxHeartbeats 1000000 in
theorem New_no (most : Int) (h : most < 1 ∨ 65536 < most) : Calls Try.prog 6 #[.int .i64 most] w fun e w' => e = .returned (.tuple #[.pointer none, .int .i64 1]) ∧ Fr Nil w w' := by
  rcases h with h | h
  · go_enter Try.func6, Try.ntmps6
    go_wp2_with fail
    exact bodyPost_ret (v := .tuple #[.pointer none, .int .i64 1]) (by simp [results, Try.results6, go_sem]) rfl ⟨rfl, by (repeat' (with_reducible first | refine Fr.setCell ?_ (fun hlt => absurd hlt (by dsimp only; omega)) _ | refine Fr.alloc ?_ _ | refine Fr.drewN ?_ _ | refine Fr.drew ?_ | exact Fr.refl _ _))⟩
  · have h' : 1 ≤ most := by omega
    go_enter Try.func6, Try.ntmps6
    go_wp2_with fail
    exact bodyPost_ret (v := .tuple #[.pointer none, .int .i64 1]) (by simp [results, Try.results6, go_sem]) rfl ⟨rfl, by (repeat' (with_reducible first | refine Fr.setCell ?_ (fun hlt => absurd hlt (by dsimp only; omega)) _ | refine Fr.alloc ?_ _ | refine Fr.drewN ?_ _ | refine Fr.drew ?_ | exact Fr.refl _ _))⟩

theorem Len_nil : Calls Try.prog 16 #[.pointer none] w fun e w' => e = .returned (.int .i64 0) ∧ Fr Nil w w' := by
  go_enter Try.func16, Try.ntmps16
  go_wp2_with fail
  exact bodyPost_ret (v := .int .i64 0) (by simp [results, Try.results16, go_sem]) rfl ⟨rfl, by (repeat' (with_reducible first | refine Fr.setCell ?_ (fun hlt => absurd hlt (by dsimp only; omega)) _ | refine Fr.alloc ?_ _ | refine Fr.drewN ?_ _ | refine Fr.drew ?_ | exact Fr.refl _ _))⟩
set_option maxHeartbeats 1000000 in
theorem Len_any {g : Nat} {v : Value} {l : List Int} {most : Nat} (h : Stk w g v l most) : Calls Try.prog 16 #[.pointer (some ⟨g, 0, none⟩)] w fun e w' => e = .returned (.int .i64 (l.length : Int)) ∧ Fr Nil w w' := by
  obtain ⟨c0, c1, f0, f1⟩ := h.1.c2
  obtain ⟨A, c, rfl⟩ := (h.2.sl EI_ok).shape
  go_enter Try.func16, Try.ntmps16
  go_wp2_with fail
  exact bodyPost_ret (v := .int .i64 (l.length : Int)) (by simp [results, Try.results16, go_sem]) rfl ⟨rfl, by (repeat' (with_reducible first | refine Fr.setCell ?_ (fun hlt => absurd hlt (by dsimp only; omega)) _ | refine Fr.alloc ?_ _ | refine Fr.drewN ?_ _ | refine Fr.drew ?_ | exact Fr.refl _ _))⟩

theorem Clear_nil : Calls Try.prog 10 #[.pointer none] w fun e w' => e = .returned (.tuple #[]) ∧ Fr Nil w w' := by
  go_enter Try.func10, Try.ntmps10
  go_wp2_with fail
  go_end0
  exact ⟨rfl, by (repeat' (with_reducible first | refine Fr.setCell ?_ (fun hlt => absurd hlt (by dsimp only; omega)) _ | refine Fr.alloc ?_ _ | refine Fr.drewN ?_ _ | refine Fr.drew ?_ | exact Fr.refl _ _))⟩
set_option maxHeartbeats 1000000 in
theorem Clear_any {g : Nat} {v : Value} {l : List Int} {most : Nat} (h : Stk w g v l most) : Calls Try.prog 10 #[.pointer (some ⟨g, 0, none⟩)] w fun e w' => e = .returned (.tuple #[]) ∧ Fr (fun k => k = g) w w' ∧ Stk w' g (.slice none 0 0) [] most := by
  obtain ⟨c0, c1, f0, f1⟩ := h.1.c2
  go_enter Try.func10, Try.ntmps10
  go_wp2_with fail
  go_end0
  exact ⟨rfl, (Fr.refl (fun k => k = g) _).setCell (fun _ => rfl) _, h.1.put 0 _, Own.nil _ _⟩

theorem top_none : Calls Try.prog 24 #[.pointer none] w fun e w' => e = .returned (.tuple #[.int .i64 0, .bool false]) ∧ Fr Nil w w' := by
  go_enter Try.func24, Try.ntmps24
  go_wp2_with fail
  exact bodyPost_ret (v := .tuple #[.int .i64 0, .bool false]) (by simp [results, Try.results24, go_sem]) rfl ⟨rfl, by (repeat' (with_reducible first | refine Fr.setCell ?_ (fun hlt => absurd hlt (by dsimp only; omega)) _ | refine Fr.alloc ?_ _ | refine Fr.drewN ?_ _ | refine Fr.drew ?_ | exact Fr.refl _ _))⟩
set_option maxHeartbeats 1000000 in
theorem top_nil {g : Nat} {v : Value} {most : Nat} (h : Stk w g v [] most) : Calls Try.prog 24 #[.pointer (some ⟨g, 0, none⟩)] w fun e w' => e = .returned (.tuple #[.int .i64 0, .bool false]) ∧ Fr Nil w w' := by
  obtain ⟨c0, c1, f0, f1⟩ := h.1.c2
  obtain ⟨A, c, rfl⟩ := (h.2.sl EI_ok).shape
  rw [List.length_nil] at c0
  go_enter Try.func24, Try.ntmps24
  go_wp2_with fail
  exact bodyPost_ret (v := .tuple #[.int .i64 0, .bool false]) (by simp [results, Try.results24, go_sem]) rfl ⟨rfl, by (repeat' (with_reducible first | refine Fr.setCell ?_ (fun hlt => absurd hlt (by dsimp only; omega)) _ | refine Fr.alloc ?_ _ | refine Fr.drewN ?_ _ | refine Fr.drew ?_ | exact Fr.refl _ _))⟩
set_option maxHeartbeats 2000000 in
theorem top_snoc {g : Nat} {v : Value} {l : List Int} {x : Int} {most : Nat} (h : Stk w g v (l ++ [x]) most) (hl : l.length ≤ 1000000) : Calls Try.prog 24 #[.pointer (some ⟨g, 0, none⟩)] w fun e w' => e = .returned (.tuple #[.int .i64 x, .bool true]) ∧ Fr Nil w w' := by
  obtain ⟨c0, c1, f0, f1⟩ := h.1.c2
  rcases h.2.sl EI_ok with ⟨_, h0⟩ | ⟨b, o, cap, rfl, hc, hb, hr⟩
  · simp at h0
  · have hx := hr.at EI_ok (i := l.length) (p := x) (by simp) (j := 0) (u := .int .i64 x) rfl
    simp only [EI, Nat.mul_one, Nat.add_zero] at hx
    rw [List.length_append, List.length_singleton] at c0
    obtain ⟨n, hn⟩ : ∃ n, l.length = n := ⟨_, rfl⟩
    rw [hn] at c0 hx hl
    clear hn hr hc
    have s1 : ((n : Int) + 1 == 0) = false := by simp; omega
    go_enter Try.func24, Try.ntmps24
    go_wp2_with fail
    go_quiet (fail)
    go_wp2_with fail
    exact bodyPost_ret (v := .tuple #[.int .i64 x, .bool true]) (by simp [results, Try.results24, go_sem]) rfl ⟨rfl, by (repeat' (with_reducible first | refine Fr.setCell ?_ (fun hlt => absurd hlt (by dsimp only; omega)) _ | refine Fr.alloc ?_ _ | refine Fr.drewN ?_ _ | refine Fr.drew ?_ | exact Fr.refl _ _))⟩
end
end Go.Proofs.Ytgibhgppfmbnaaa.StackA
