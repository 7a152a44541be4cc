/- Chapter 10: Few, slices.Clone, Clone, Same; what is told of no stack; lives. -/
import Derived.Test.YtgibhgppfmbnaaaStackB
import Derived.Deep.RegionHeld3
namespace Go.Proofs.Ytgibhgppfmbnaaa.StackC
open Go.RowKit Base Slices Quiet StackA StackB TrapA TrapB TrapG
set_option linter.unusedVariables false
set_option linter.unusedSimpArgs false

/-- a new slice with these elements, not nil -/
def New (l : List Int) (w : World) (e : Ending) (w' : World) : Prop := ∃ u, e = .returned u ∧ Fr Nil w w' ∧ Own EI w' w.heap.size u l ∧ u ≠ .slice none 0 0

/-- an append to a new row turns nothing that was there -/
theorem fr_new {w0 w1 w2 : World} {v : Value} (h : Fr Nil w0 w1) (h2 : Fr (Of v) w1 w2) (hv : ∀ k, v.ownBlock = some k → w0.heap.size ≤ k) : Fr Nil w0 w2 :=
  h.then h2 fun k hk hlt => absurd (hv k hk) (by omega)

section
variable (w : World)
set_option maxHeartbeats 2000000 in
theorem Few_any {l : List Int} {k : Nat} {y : Value} (hy : Come EI w y l) (hk : k ≤ 100000) (hm : l.length ≤ maxLen) : Calls Try.prog 8 #[y, .int .i64 (k : Int)] w (New (l.take k) w) := by
  have hkk : (k : Int) ≤ 100000 := by omega
  unfold maxLen at hm
  have hmm : (l.length : Int) ≤ 9223372036854775807 := by omega
  clear hm
  rcases Nat.lt_or_ge k l.length with hlt | hge
  · rcases hy with ⟨rfl, rfl⟩ | ⟨a, cap, rfl, hc, hr⟩
    · simp at hlt
    · have hy' : Come EI w (.slice (some a) l.length cap) l := Or.inr ⟨a, cap, rfl, hc, hr⟩
      have hY := Lib.hid (hy'.take EI_ok k (by omega))
      have hL := Lib.hid (show ([] : List Int).length + (l.take k).length ≤ 1000000 by simp; omega)
      have h1 : (k : Int) < l.length := by omega
      have h2 : (k : Int) ≤ cap := by omega
      clear hr hy'
      go_enter Try.func8, Try.ntmps8
      go_wp2_with (at_builtin; refine wpList_app EI_ok rfl (.tmp 12) (.tmp 13) 28 rfl rfl w.heap.size (.slice (some ⟨w.heap.size, 0, none⟩) 0 0) (.slice (some a) k cap) [] (l.take k) rfl (Own.made (Nat.le_refl _) rfl) rfl (hY.out.fr (by (repeat' (with_reducible first | refine Fr.setCell ?_ (fun hlt => absurd hlt (by dsimp only; omega)) _ | refine Fr.alloc ?_ _ | refine Fr.drewN ?_ _ | refine Fr.drew ?_ | exact Fr.refl _ _)))) hL.out (by simp) ?_; intro v' w1 o1 o2 o3 o4)
      go_ret
      exact ⟨_, rfl, fr_new (by (repeat' (with_reducible first | refine Fr.setCell ?_ (fun hlt => absurd hlt (by dsimp only; omega)) _ | refine Fr.alloc ?_ _ | refine Fr.drewN ?_ _ | refine Fr.drew ?_ | exact Fr.refl _ _))) o2 (fun k hk => by simp [Value.ownBlock] at hk; omega), o1, fun e => by cases o4 e⟩
  · rw [List.take_of_length_le hge]
    have h1 : (l.length : Int) ≤ k := by omega
    obtain ⟨A, c, rfl⟩ := hy.shape
    have hY := Lib.hid hy
    have hL := Lib.hid (show ([] : List Int).length + l.length ≤ 1000000 by simp; omega)
    clear hy hge
    go_enter Try.func8, Try.ntmps8
    go_wp2_with (at_builtin; refine wpList_app EI_ok rfl (.tmp 12) (.tmp 13) 28 rfl rfl w.heap.size (.slice (some ⟨w.heap.size, 0, none⟩) 0 0) (.slice A l.length c) [] l rfl (Own.made (Nat.le_refl _) rfl) rfl (hY.out.fr (by (repeat' (with_reducible first | refine Fr.setCell ?_ (fun hlt => absurd hlt (by dsimp only; omega)) _ | refine Fr.alloc ?_ _ | refine Fr.drewN ?_ _ | refine Fr.drew ?_ | exact Fr.refl _ _)))) hL.out (by simp) ?_; intro v' w1 o1 o2 o3 o4)
    go_ret
    exact ⟨_, rfl, fr_new (by (repeat' (with_reducible first | refine Fr.setCell ?_ (fun hlt => absurd hlt (by dsimp only; omega)) _ | refine Fr.alloc ?_ _ | refine Fr.drewN ?_ _ | refine Fr.drew ?_ | exact Fr.refl _ _))) o2 (fun k hk => by simp [Value.ownBlock] at hk; omega), o1, fun e => by cases o4 e⟩

theorem clone_none : Calls Try.prog 20 #[.slice none 0 0] w fun e w' => e = .returned (.slice none 0 0) ∧ Fr Nil w w' := by
  have hnil : ∀ W, (binOp .eql 28 (.slice none 0 0) (.slice none 0 0)).run Try.prog W = .ok (.bool true) W := fun W => by kernel_rfl
  go_enter Try.func20, Try.ntmps20
  go_wp2
  go_ret
  exact ⟨rfl, by (repeat' (with_reducible first | refine Fr.setCell ?_ (fun hlt => absurd hlt (by dsimp only; omega)) _ | refine Fr.alloc ?_ _ | refine Fr.drewN ?_ _ | refine Fr.drew ?_ | exact Fr.refl _ _))⟩
set_option maxHeartbeats 2000000 in
theorem clone_some {l : List Int} {g o cap : Nat} (hy : Sl EI w (.slice (some ⟨g, o, none⟩) l.length cap) l) (hl : l.length ≤ 100000) : Calls Try.prog 20 #[.slice (some ⟨g, o, none⟩) l.length cap] w (New l w) := by
  have hY := Lib.hid hy.come
  have hL := Lib.hid (show ([] : List Int).length + l.length ≤ 1000000 by simp; omega)
  have hnil : ∀ W, (binOp .eql 28 (.slice (some ⟨g, o, none⟩) l.length cap) (.slice none 0 0)).run Try.prog W = .ok (.bool false) W := fun W => by kernel_rfl
  clear hy
  go_enter Try.func20, Try.ntmps20
  go_wp2_with (at_builtin; refine wpList_app EI_ok rfl (.tmp 5) (.tmp 6) 28 rfl rfl w.heap.size (.slice (some ⟨w.heap.size, 0, none⟩) 0 0) (.slice (some ⟨g, o, none⟩) l.length cap) [] l rfl (Own.made (Nat.le_refl _) rfl) rfl (hY.out.fr (by (repeat' (with_reducible first | refine Fr.setCell ?_ (fun hlt => absurd hlt (by dsimp only; omega)) _ | refine Fr.alloc ?_ _ | refine Fr.drewN ?_ _ | refine Fr.drew ?_ | exact Fr.refl _ _)))) hL.out (by simp) ?_; intro v' w1 o1 o2 o3 o4)
  go_ret
  exact ⟨_, rfl, fr_new (by (repeat' (with_reducible first | refine Fr.setCell ?_ (fun hlt => absurd hlt (by dsimp only; omega)) _ | refine Fr.alloc ?_ _ | refine Fr.drewN ?_ _ | refine Fr.drew ?_ | exact Fr.refl _ _))) o2 (fun k hk => by simp [Value.ownBlock] at hk; omega), o1, fun e => by cases o4 e⟩

/-- a slice of the call's own, or nil: a copy -/
def Copied (l : List Int) (w : World) (e : Ending) (w' : World) : Prop := ∃ A c, e = .returned (.slice A l.length c) ∧ Fr Nil w w' ∧ Own EI w' w.heap.size (.slice A l.length c) l
theorem clone_own {l : List Int} {v : Value} {b : Nat} (h : Own EI w b v l) (hl : l.length ≤ 100000) : Calls Try.prog 20 #[v] w (Copied l w) := by
  rcases h.shape with ⟨rfl, rfl⟩ | ⟨g, cap, rfl, _⟩
  · exact (clone_none w).mono fun e w' ⟨h1, h2⟩ => ⟨none, 0, h1, h2, Own.nil _ _⟩
  · refine (clone_some w (h.sl EI_ok) hl).mono ?_
    rintro e w' ⟨u, h1, h2, h3, h4⟩
    obtain ⟨A, c, rfl⟩ := (h3.sl EI_ok).shape
    exact ⟨A, c, h1, h2, h3⟩

/-- a new stack with these elements -/
def Cloned (l : List Int) (most : Nat) (w : World) (e : Ending) (w' : World) : Prop := ∃ g v, e = .returned (.pointer (some ⟨g, 0, none⟩)) ∧ Fr Nil w w' ∧ Stk w' g v l most ∧ w.heap.size ≤ g ∧ ∀ k, v.ownBlock = some k → w.heap.size ≤ k
theorem Clone_nil : Calls Try.prog 11 #[.pointer none] w fun e w' => e = .returned (.pointer none) ∧ Fr Nil w w' := by
  go_enter Try.func11, Try.ntmps11
  go_wp2_with fail
  exact bodyPost_ret (v := .pointer none) (by simp [results, Try.results11, go_sem]) rfl ⟨rfl, by (repeat' (with_reducible first | refine Fr.setCell ?_ (fun hlt => absurd hlt (by dsimp only; omega)) _ | refine Fr.alloc ?_ _ | refine Fr.drewN ?_ _ | refine Fr.drew ?_ | exact Fr.refl _ _))⟩
set_option maxHeartbeats 4000000 in
theorem Clone_any {l : List Int} {most g : Nat} {v : Value} (h : Stk w g v l most) (hl : l.length ≤ 100000) : Calls Try.prog 11 #[.pointer (some ⟨g, 0, none⟩)] w (Cloned l most w) := by
  obtain ⟨c0, c1, _, _⟩ := h.1.c2
  have hB := h.1
  have hO := h.2
  obtain ⟨A, c, rfl⟩ := (hO.sl EI_ok).shape
  have HC := Lib.hid (fun W (hW : Fr Nil w W) => clone_own W (hO.fr hW (fun _ _ s => s)) hl)
  have HB := Lib.hid hB
  clear h hO hB
  go_enter Try.func11, Try.ntmps11
  go_wp2_with fail
  go_region_held3 (fun w' => w'.cell? ⟨g, 0, none⟩ = some (.slice A l.length c) ∧ w'.cell? ⟨g, 1, none⟩ = some (.int .i64 most)) (first | (go_keep; done) | exact ⟨(HB.out.fr (by assumption) id).cell 0, (HB.out.fr (by assumption) id).cell 1⟩)
    ((go_at_call 20; refine (HC.out _ (by (repeat' (with_reducible first | refine Fr.setCell ?_ (fun hlt => absurd hlt (by dsimp only; omega)) _ | refine Fr.alloc ?_ _ | refine Fr.drewN ?_ _ | refine Fr.drew ?_ | exact Fr.refl _ _)))).mono ?_; rintro e w1 ⟨A1, c1, rfl, hf, ho⟩; have hf0 : Fr Nil w w1 := Fr.trans (by (repeat' (with_reducible first | refine Fr.setCell ?_ (fun hlt => absurd hlt (by dsimp only; omega)) _ | refine Fr.alloc ?_ _ | refine Fr.drewN ?_ _ | refine Fr.drew ?_ | exact Fr.refl _ _))) hf))
  go_wp2_with fail
  exact bodyPost_ret (v := .pointer (some ⟨w1.heap.size, 0, none⟩)) (by simp [results, Try.results11, go_sem]) rfl ⟨w1.heap.size, _, rfl, by (repeat' (with_reducible first | exact hf0 | refine Fr.setCell ?_ (fun hlt => absurd hlt (by dsimp only; omega)) _ | refine Fr.alloc ?_ _ | refine Fr.drewN ?_ _ | refine Fr.drew ?_)), ⟨by (repeat' (first | ((with_reducible refine new' ?_); simp; done) | with_reducible refine Bk.alloc ?_ _ | with_reducible refine Bk.far ?_ (by dsimp only; omega) _ | with_reducible refine Bk.drewN ?_ _ | with_reducible refine Bk.drew ?_)), ((ho.weaken (Nat.zero_le _)).alloc _)⟩, hf0.size, fun k hk => (ho.lt k hk).1⟩

def sameB (a b : List Int) : Bool := decide (a = b)

set_option maxHeartbeats 4000000 in
theorem lives_any : Calls Try.prog 7 #[] w fun e w' => e = .returned (.bool true) ∧ Fr Nil w w' := by
  have hN := Lib.hid (fun W => New_ok W 3 (by omega) (by omega))
  go_enter Try.func7, Try.ntmps7
  go_wp2_with fail
  refine (hN.out _).mono ?_
  rintro e w1 ⟨rfl, hf1, hs1⟩
  have HS1 := Lib.hid hs1
  clear hs1
  go_wp2_with fail
  refine (Push_fits _ (l := []) (m := [1, 2]) (HS1.out.nil (by (repeat' (with_reducible first | refine Fr.setCell ?_ (fun hlt => absurd hlt (by dsimp only; omega)) _ | refine Fr.alloc ?_ _ | refine Fr.drewN ?_ _ | refine Fr.drew ?_ | exact Fr.refl _ _)))) (lit_sl EI_ok [1, 2] rfl rfl _).come (by decide) (by decide)).mono ?_
  rintro e w2 ⟨rfl, hf2, hq⟩
  have HQ := Lib.hid hq
  clear hq
  go_wp2_with fail
  obtain ⟨v2, hs2, hm2⟩ := HQ.out
  refine (Pop_of _ (pop_snoc w2 (l := [1]) (x := 2) hs2 (by decide))).mono ?_
  rintro e w3 ⟨rfl, hf3, hs3⟩
  have HS3 := Lib.hid hs3
  have HF3 := Lib.hid hf3
  have HF2 := Lib.hid hf2
  clear hs3 hs2 hm2 hf3 hf2
  go_wp2_with fail
  refine (Len_any w3 HS3.out).mono ?_
  rintro e w4 ⟨rfl, hf4⟩
  go_wp2_with fail
  have h2 : Fr Nil w w2 := hf1.then (T := Foot w.heap.size (.slice none 0 0)) (Fr.trans (by (repeat' (with_reducible first | refine Fr.setCell ?_ (fun hlt => absurd hlt (by dsimp only; omega)) _ | refine Fr.alloc ?_ _ | refine Fr.drewN ?_ _ | refine Fr.drew ?_ | exact Fr.refl _ _))) HF2.out) (by rintro i (rfl | hi) hlt <;> first | exact absurd hlt (Nat.lt_irrefl _) | cases hi)
  have h3 : Fr Nil w w3 := h2.then HF3.out (by rintro i rfl hlt; exact absurd hlt (Nat.lt_irrefl _))
  exact bodyPost_ret (v := .bool true) (by simp [results, Try.results7, go_sem]) rfl ⟨rfl, h3.trans hf4⟩

/-- Walk on no stack -/
theorem Walk_none (n : Int) (fn : Fn) (a b : Array Value) : Calls Try.prog 17 #[.pointer none, .int .i64 n, .func fn a b] w fun e w' => e = .returned (.tuple #[.int .i64 0, .int .i64 1]) ∧ Fr Nil w w' := by
  go_enter Try.func17, Try.ntmps17
  go_wp2_with fail
  exact bodyPost_ret (v := .tuple #[.int .i64 0, .int .i64 1]) (by simp [results, Try.results17, go_sem]) rfl ⟨rfl, by (repeat' (with_reducible first | refine Fr.setCell ?_ (fun hlt => absurd hlt (by dsimp only; omega)) _ | refine Fr.alloc ?_ _ | refine Fr.drewN ?_ _ | refine Fr.drew ?_ | exact Fr.refl _ _))⟩
end
end Go.Proofs.Ytgibhgppfmbnaaa.StackC
