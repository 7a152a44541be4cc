/- Chapter 6: of, Take, Give, Get of a pool. -/
import Derived.Test.YtemofdbepalnkaaPoolB
import Derived.Test.YtemofdbepalnkaaTrapV
namespace Go.Proofs.Ytemofdbepalnkaa.PoolC
open Go.RowKit Base Slices Quiet TrapA TrapB TrapG TrapV PoolA PoolB
set_option linter.unusedVariables false
set_option linter.unusedSimpArgs false

theorem Held.nil {w w' w'' : World} {g : Nat} {v : Value} {l : List Slot} {free n : Int} {most : Nat} (h : Held w g v l free n most w') (hf : Fr Nil w' w'') : Held w g v l free n most w'' := by
  obtain ⟨v', h1, h2⟩ := h
  exact ⟨v', h1.nil hf, h2⟩
theorem Held.since {w w0 w' : World} {g : Nat} {v : Value} {l : List Slot} {free n : Int} {most : Nat} (h : Held w0 g v l free n most w') (hf : w.heap.size ≤ w0.heap.size) : Held w g v l free n most w' := by
  obtain ⟨v', h1, h2⟩ := h
  exact ⟨v', h1, fun k hk => (h2 k hk).imp id fun e => Nat.le_trans hf e⟩
theorem Held.left {w w' : World} {g : Nat} {v : Value} {l : List Slot} {free n : Int} {most : Nat} {S : Nat → Prop} (hS : ∀ k, Foot g v k → k < w.heap.size) (h : TrapG.Left w S (fun W w1 => Held W g v l free n most w1) w') : Held w g v l free n most w' := by
  obtain ⟨W, w1, h1, h2, ⟨v', h3, h4⟩, h5⟩ := h
  refine ⟨v', h3.fr h5 ?_, fun k hk => (h4 k hk).imp id fun e => Nat.le_trans h1.size e⟩
  rintro k (rfl | hk) ⟨s1, s2⟩
  · have := hS k (Or.inl rfl)
    omega
  · rcases h4 k hk with e | e
    · have := hS k (Or.inr e)
      omega
    · omega

section
variable {F : FuncId} {first cap : Array Value} {w : World} {S : Nat → Prop} {Q : World → World → Prop}
set_option maxHeartbeats 1000000 in
theorem of_ret {g : Nat} (hS : ∀ k, S k → k < w.heap.size) (hF : Enters F) (h : RunsG F (first ++ cap) w S (.returned (.tuple #[])) Q) :
    Calls Try.prog 20 #[.pointer (some ⟨g, 0, none⟩), .func (.func F) first cap] w fun e w' => e = .returned (.int .i64 0) ∧ Fr S w w' ∧ TrapG.Left w S Q w' := by
  have HC := Lib.hid (CatchG_ret hS hF h)
  clear hS hF h
  go_enter Try.func20, Try.ntmps20
  go_wp2_with fail
  refine HC.out.mono ?_
  rintro e w1 ⟨rfl, hf, hL⟩
  have HF := Lib.hid hf
  have HL := Lib.hid hL
  clear hf hL
  go_wp2_with fail
  have h0 := HF.out
  exact bodyPost_ret (v := .int .i64 0) (by simp [results, Try.results20, go_sem]) rfl ⟨rfl, by (repeat' (with_reducible first | exact h0 | refine Fr.setCell ?_ (fun hlt => absurd hlt (by dsimp only; omega)) _ | refine Fr.alloc ?_ _ | refine Fr.drewN ?_ _ | refine Fr.drew ?_)), left_nil HL.out (by (repeat' (with_reducible first | refine Fr.setCell ?_ (fun hlt => absurd hlt (by dsimp only; omega)) _ | refine Fr.alloc ?_ _ | refine Fr.drewN ?_ _ | refine Fr.drew ?_ | exact Fr.refl _ _)))⟩
set_option maxHeartbeats 1000000 in
theorem of_fault {g : Nat} {x c : Int} (hS : ∀ k, S k → k < w.heap.size) (hF : Enters F) (h : RunsG F (first ++ cap) w S (.panicked [fault x c]) Q) :
    Calls Try.prog 20 #[.pointer (some ⟨g, 0, none⟩), .func (.func F) first cap] w fun e w' => e = .returned (.int .i64 c) ∧ Fr S w w' ∧ TrapG.Left w S Q w' := by
  have HC := Lib.hid (CatchG_fault hS hF h)
  clear hS hF h
  go_enter Try.func20, Try.ntmps20
  go_wp2_with fail
  refine HC.out.mono ?_
  rintro e w1 ⟨rfl, hf, hL⟩
  have HF := Lib.hid hf
  have HL := Lib.hid hL
  clear hf hL
  go_wp2_with fail
  have h0 := HF.out
  exact bodyPost_ret (v := .int .i64 c) (by simp [results, Try.results20, go_sem]) rfl ⟨rfl, by (repeat' (with_reducible first | exact h0 | refine Fr.setCell ?_ (fun hlt => absurd hlt (by dsimp only; omega)) _ | refine Fr.alloc ?_ _ | refine Fr.drewN ?_ _ | refine Fr.drew ?_)), left_nil HL.out (by (repeat' (with_reducible first | refine Fr.setCell ?_ (fun hlt => absurd hlt (by dsimp only; omega)) _ | refine Fr.alloc ?_ _ | refine Fr.drewN ?_ _ | refine Fr.drew ?_ | exact Fr.refl _ _)))⟩
theorem of_none : Calls Try.prog 20 #[.pointer none, .func (.func F) first cap] w fun e w' => e = .returned (.int .i64 1) ∧ Fr Nil w w' := by
  go_enter Try.func20, Try.ntmps20
  go_wp2_with fail
  exact bodyPost_ret (v := .int .i64 1) (by simp [results, Try.results20, go_sem]) rfl ⟨rfl, by (repeat' (with_reducible first | refine Fr.setCell ?_ (fun hlt => absurd hlt (by dsimp only; omega)) _ | refine Fr.alloc ?_ _ | refine Fr.drewN ?_ _ | refine Fr.drew ?_ | exact Fr.refl _ _))⟩
end

section
variable (w : World)
theorem enters_give1 : Enters 21 := fun _ _ => by simp [go_sem]
theorem enters_get1 : Enters 30 := fun _ _ => by simp [go_sem]
theorem enters_take1 : Enters 24 := fun _ _ => by simp [go_sem]

theorem take1_of {a b g : Nat} {v : Value} {x r : Int} {R : World → World → Prop} (ha : Bk w a 23 #[.pointer (some ⟨g, 0, none⟩)]) (hb : Bk w b 3 #[.int .i64 x])
    (h : Calls Try.prog 25 #[.pointer (some ⟨g, 0, none⟩), .int .i64 x] w fun e w' => e = .returned (.int .i64 r) ∧ Fr (Foot g v) w w' ∧ R w w') :
    Calls Try.prog 24 #[.pointer (some ⟨a, 0, none⟩), .pointer (some ⟨b, 0, none⟩)] w fun e w' => e = .returned (.int .i64 r) ∧ Fr (Foot g v) w w' ∧ R w w' := by
  have H := Lib.hid h
  obtain ⟨a0, _⟩ := ha.c1
  obtain ⟨b0, _⟩ := hb.c1
  clear h ha hb
  go_enter Try.func24, Try.ntmps24
  go_wp2_with fail
  refine H.out.mono ?_
  rintro e w1 ⟨rfl, hf, hr⟩
  have HF := Lib.hid hf
  have HR := Lib.hid hr
  clear hf hr
  go_wp2_with fail
  go_ret
  exact ⟨rfl, HF.out, HR.out⟩

theorem Take_none (x : Int) : Calls Try.prog 8 #[.pointer none, .int .i64 x] w fun e w' => e = .returned (.tuple #[.int .i64 0, .int .i64 1]) ∧ Fr Nil w w' := by
  go_enter Try.func8, Try.ntmps8
  go_wp2_with fail
  exact bodyPost_ret (v := .tuple #[.int .i64 0, .int .i64 1]) (by simp [results, Try.results8, go_sem]) rfl ⟨rfl, by (repeat' (with_reducible first | refine Fr.setCell ?_ (fun hlt => absurd hlt (by dsimp only; omega)) _ | refine Fr.alloc ?_ _ | refine Fr.drewN ?_ _ | refine Fr.drew ?_ | exact Fr.refl _ _))⟩

set_option maxHeartbeats 2000000 in
theorem Take_of {g : Nat} {v : Value} {l l' : List Slot} {free n free' n' x r : Int} {most : Nat} (h : Pl w g v l free n most)
    (ht : ∀ W, Fr Nil w W → Calls Try.prog 25 #[.pointer (some ⟨g, 0, none⟩), .int .i64 x] W fun e w' => e = .returned (.int .i64 r) ∧ Fr (Foot g v) W w' ∧ Held W g v l' free' n' most w') :
    Calls Try.prog 8 #[.pointer (some ⟨g, 0, none⟩), .int .i64 x] w fun e w' => e = .returned (.tuple #[.int .i64 r, .int .i64 0]) ∧ Fr (Foot g v) w w' ∧ Held w g v l' free' n' most w' := by
  have hRun : RunsG 24 (#[] ++ #[.pointer (some ⟨w.heap.size, 0, none⟩), .pointer (some ⟨w.heap.size + 1, 0, none⟩)]) ((w.alloc (.cells #[.pointer (some ⟨g, 0, none⟩)] 23)).alloc (.cells #[.int .i64 x] 3)) (Foot g v) (.returned (.int .i64 r)) (fun W w' => Held W g v l' free' n' most w') := fun W hW => by
    have h0 : Fr Nil w W := Fr.trans (by (repeat' (with_reducible first | refine Fr.setCell ?_ (fun hlt => absurd hlt (by dsimp only; omega)) _ | refine Fr.alloc ?_ _ | refine Fr.drewN ?_ _ | refine Fr.drew ?_ | exact Fr.refl _ _))) hW
    rw [Array.empty_append]
    exact take1_of (R := fun W w' => Held W g v l' free' n' most w') W (Bk.fr (S := Nil) (by (repeat' (first | ((with_reducible refine new' ?_); simp; done) | with_reducible refine Bk.alloc ?_ _ | with_reducible refine Bk.far ?_ (by dsimp only; omega) _ | with_reducible refine Bk.drewN ?_ _ | with_reducible refine Bk.drew ?_))) hW id) (Bk.fr (S := Nil) (by (repeat' (first | ((with_reducible refine new' ?_); simp; done) | with_reducible refine Bk.alloc ?_ _ | with_reducible refine Bk.far ?_ (by dsimp only; omega) _ | with_reducible refine Bk.drewN ?_ _ | with_reducible refine Bk.drew ?_))) hW id) (ht W h0)
  have HC := Lib.hid (ValueG_ret (first := #[]) (fun k hk => by have := h.lt k hk; simp; omega) enters_take1 hRun)
  have hlt := Lib.hid h.lt
  clear hRun h ht
  go_enter Try.func8, Try.ntmps8
  go_wp2_with fail
  refine HC.out.mono ?_
  rintro e w1 ⟨rfl, hf, hL⟩
  have hP := Held.left (fun k hk => by have := hlt.out k hk; simp; omega) hL
  have HP := Lib.hid (Held.since (w := w) hP (by simp; omega))
  have g1 : Fr (Foot g v) w w1 := Fr.trans (by (repeat' (with_reducible first | refine Fr.setCell ?_ (fun hlt => absurd hlt (by dsimp only; omega)) _ | refine Fr.alloc ?_ _ | refine Fr.drewN ?_ _ | refine Fr.drew ?_ | exact Fr.refl _ _))) hf
  have HG := Lib.hid g1
  clear hL hP hf g1
  go_wp2_with fail
  exact bodyPost_ret (v := .tuple #[.int .i64 r, .int .i64 0]) (by simp [results, Try.results8, go_sem]) rfl ⟨rfl, HG.out, HP.out⟩

theorem Give_none (i : Int) : Calls Try.prog 7 #[.pointer none, .int .i64 i] w fun e w' => e = .returned (.int .i64 1) ∧ Fr Nil w w' := by
  have H := Lib.hid (fun W F first cap => of_none (w := W) (F := F) (first := first) (cap := cap))
  go_enter Try.func7, Try.ntmps7
  go_wp2_with fail
  refine (H.out _ _ _ _).mono ?_
  rintro e w1 ⟨rfl, hf⟩
  have g1 : Fr Nil w w1 := Fr.trans (by (repeat' (with_reducible first | refine Fr.setCell ?_ (fun hlt => absurd hlt (by dsimp only; omega)) _ | refine Fr.alloc ?_ _ | refine Fr.drewN ?_ _ | refine Fr.drew ?_ | exact Fr.refl _ _))) hf
  clear hf
  go_wp2_with fail
  exact bodyPost_ret (v := .int .i64 1) (by simp [results, Try.results7, go_sem]) rfl ⟨rfl, g1⟩
theorem Set_none (i x : Int) : Calls Try.prog 18 #[.pointer none, .int .i64 i, .int .i64 x] w fun e w' => e = .returned (.int .i64 1) ∧ Fr Nil w w' := by
  have H := Lib.hid (fun W F first cap => of_none (w := W) (F := F) (first := first) (cap := cap))
  go_enter Try.func18, Try.ntmps18
  go_wp2_with fail
  refine (H.out _ _ _ _).mono ?_
  rintro e w1 ⟨rfl, hf⟩
  have g1 : Fr Nil w w1 := Fr.trans (by (repeat' (with_reducible first | refine Fr.setCell ?_ (fun hlt => absurd hlt (by dsimp only; omega)) _ | refine Fr.alloc ?_ _ | refine Fr.drewN ?_ _ | refine Fr.drew ?_ | exact Fr.refl _ _))) hf
  clear hf
  go_wp2_with fail
  exact bodyPost_ret (v := .int .i64 1) (by simp [results, Try.results18, go_sem]) rfl ⟨rfl, g1⟩

set_option maxHeartbeats 2000000 in
theorem Give_ok {g k : Nat} {v : Value} {l : List Slot} {free n : Int} {most : Nat} {p : Slot} (h : Pl w g v l free n most) (hp : l[k]? = some p) (ht : p.2.2 = true) (hl : l.length ≤ 1048576) (hn : -1048576 ≤ n ∧ n ≤ 1048576) :
    Calls Try.prog 7 #[.pointer (some ⟨g, 0, none⟩), .int .i64 ((k : Int) + 1)] w fun e w' => e = .returned (.int .i64 0) ∧ Fr (Foot g v) w w' ∧ Held w g v (l.set k (0, free, false)) ((k : Int) + 1) (n - 1) most w' := by
  have hRun : RunsG 21 (#[] ++ #[.pointer (some ⟨w.heap.size, 0, none⟩), .pointer (some ⟨w.heap.size + 1, 0, none⟩)]) ((w.alloc (.cells #[.pointer (some ⟨g, 0, none⟩)] 23)).alloc (.cells #[.int .i64 ((k : Int) + 1)] 3)) (Foot g v) (.returned (.tuple #[])) (fun W w' => Held W g v (l.set k (0, free, false)) ((k : Int) + 1) (n - 1) most w') := fun W hW => by
    have h0 : Fr Nil w W := Fr.trans (by (repeat' (with_reducible first | refine Fr.setCell ?_ (fun hlt => absurd hlt (by dsimp only; omega)) _ | refine Fr.alloc ?_ _ | refine Fr.drewN ?_ _ | refine Fr.drew ?_ | exact Fr.refl _ _))) hW
    rw [Array.empty_append]
    exact give1_ok W (Bk.fr (S := Nil) (by (repeat' (first | ((with_reducible refine new' ?_); simp; done) | with_reducible refine Bk.alloc ?_ _ | with_reducible refine Bk.far ?_ (by dsimp only; omega) _ | with_reducible refine Bk.drewN ?_ _ | with_reducible refine Bk.drew ?_))) hW id) (Bk.fr (S := Nil) (by (repeat' (first | ((with_reducible refine new' ?_); simp; done) | with_reducible refine Bk.alloc ?_ _ | with_reducible refine Bk.far ?_ (by dsimp only; omega) _ | with_reducible refine Bk.drewN ?_ _ | with_reducible refine Bk.drew ?_))) hW id) (h.nil h0) hp ht hl hn ⟨fun s => by have := h.lt _ s; omega, fun s => by have := h.lt _ s; omega⟩
  have HC := Lib.hid (of_ret (g := g) (first := #[]) (fun k hk => by have := h.lt k hk; simp; omega) enters_give1 hRun)
  have hlt := Lib.hid h.lt
  obtain ⟨hn0, hn1⟩ := hn
  have hk3 : (k : Int) ≤ 1048576 := by have := (List.getElem?_eq_some_iff.1 hp).1; omega
  clear hRun h ht hp
  go_enter Try.func7, Try.ntmps7
  go_wp2_with fail
  refine HC.out.mono ?_
  rintro e w1 ⟨rfl, hf, hL⟩
  have hP := Held.left (fun k hk => by have := hlt.out k hk; simp; omega) hL
  have HP := Lib.hid (Held.since (w := w) hP (by simp; omega))
  have HG := Lib.hid (show Fr (Foot g v) w w1 from Fr.trans (by (repeat' (with_reducible first | refine Fr.setCell ?_ (fun hlt => absurd hlt (by dsimp only; omega)) _ | refine Fr.alloc ?_ _ | refine Fr.drewN ?_ _ | refine Fr.drew ?_ | exact Fr.refl _ _))) hf)
  clear hL hP hf
  go_wp2_with fail
  exact bodyPost_ret (v := .int .i64 0) (by simp [results, Try.results7, go_sem]) rfl ⟨rfl, HG.out, HP.out⟩
set_option maxHeartbeats 2000000 in
theorem Get_ok {g k : Nat} {v : Value} {l : List Slot} {free n : Int} {most : Nat} {p : Slot} (h : Pl w g v l free n most) (hp : l[k]? = some p) (ht : p.2.2 = true) (hl : l.length ≤ 1048576) :
    Calls Try.prog 15 #[.pointer (some ⟨g, 0, none⟩), .int .i64 ((k : Int) + 1)] w fun e w' => e = .returned (.tuple #[.int .i64 p.1, .bool true]) ∧ Fr Nil w w' := by
  have hRun : RunsG 30 (#[] ++ #[.pointer (some ⟨w.heap.size, 0, none⟩), .pointer (some ⟨w.heap.size + 1, 0, none⟩), .pointer (some ⟨w.heap.size + 1 + 1, 0, none⟩)]) (((w.alloc (.cells #[.pointer (some ⟨g, 0, none⟩)] 23)).alloc (.cells #[.int .i64 ((k : Int) + 1)] 3)).alloc (.cells #[.int .i64 0] 3)) (fun j => j = w.heap.size + 1 + 1) (.returned (.tuple #[])) (fun W w' => Bk w' (w.heap.size + 1 + 1) 3 #[.int .i64 p.1]) := fun W hW => by
    have h0 : Fr Nil w W := Fr.trans (by (repeat' (with_reducible first | refine Fr.setCell ?_ (fun hlt => absurd hlt (by dsimp only; omega)) _ | refine Fr.alloc ?_ _ | refine Fr.drewN ?_ _ | refine Fr.drew ?_ | exact Fr.refl _ _))) hW
    have hd : Bk W (w.heap.size + 1 + 1) 3 #[.int .i64 0] := Bk.fr (S := Nil) (by (repeat' (first | ((with_reducible refine new' ?_); simp; done) | with_reducible refine Bk.alloc ?_ _ | with_reducible refine Bk.far ?_ (by dsimp only; omega) _ | with_reducible refine Bk.drewN ?_ _ | with_reducible refine Bk.drew ?_))) hW id
    rw [Array.empty_append]
    refine (get1_ok W (Bk.fr (S := Nil) (by (repeat' (first | ((with_reducible refine new' ?_); simp; done) | with_reducible refine Bk.alloc ?_ _ | with_reducible refine Bk.far ?_ (by dsimp only; omega) _ | with_reducible refine Bk.drewN ?_ _ | with_reducible refine Bk.drew ?_))) hW id) (Bk.fr (S := Nil) (by (repeat' (first | ((with_reducible refine new' ?_); simp; done) | with_reducible refine Bk.alloc ?_ _ | with_reducible refine Bk.far ?_ (by dsimp only; omega) _ | with_reducible refine Bk.drewN ?_ _ | with_reducible refine Bk.drew ?_))) hW id) hd (h.nil h0) hp ht hl).mono fun e w' ⟨he, hw⟩ => ⟨he, ?_, ?_⟩
    · rw [hw]; exact Fr.setCell (p := ⟨w.heap.size + 1 + 1, 0, none⟩) (Fr.refl (fun j => j = w.heap.size + 1 + 1) W) (fun _ => rfl) _
    · rw [hw]; exact hd.put 0 _
  have HC := Lib.hid (of_ret (g := g) (first := #[]) (fun j hj => by simp; omega) enters_get1 hRun)
  have hk3 : (k : Int) ≤ 1048576 := by have := (List.getElem?_eq_some_iff.1 hp).1; omega
  clear hRun h ht hp
  go_enter Try.func15, Try.ntmps15
  go_wp2_with fail
  refine HC.out.mono ?_
  rintro e w1 ⟨rfl, hf, W, w2, hW, h1, h2, h3⟩
  have hB := h2.fr h3 (by rintro ⟨s1, s2⟩; simp at s1; omega)
  obtain ⟨y0, y1⟩ := hB.c1
  have HB := Lib.hid hB
  have HG := Lib.hid (show Fr Nil w w1 from Fr.then (b := (((w.alloc (.cells #[.pointer (some ⟨g, 0, none⟩)] 23)).alloc (.cells #[.int .i64 ((k : Int) + 1)] 3)).alloc (.cells #[.int .i64 0] 3))) (by (repeat' (with_reducible first | refine Fr.setCell ?_ (fun hlt => absurd hlt (by dsimp only; omega)) _ | refine Fr.alloc ?_ _ | refine Fr.drewN ?_ _ | refine Fr.drew ?_ | exact Fr.refl _ _))) hf (fun j hj hlt => by omega))
  clear hf hW h1 h2 h3 hB
  go_wp2_with fail
  obtain ⟨z0, z1⟩ := (HB.out.put 0 (.int .i64 p.1)).c1
  refine bodyPost_ret (v := .tuple #[.int .i64 p.1, .bool true]) (by simp [results, Try.results15, go_sem, z0]) rfl ⟨rfl, HG.out.setCell (fun hlt => absurd hlt (by simp; omega)) _⟩
set_option maxHeartbeats 2000000 in
theorem Get_none (i : Int) : Calls Try.prog 15 #[.pointer none, .int .i64 i] w fun e w' => e = .returned (.tuple #[.int .i64 0, .bool false]) ∧ Fr Nil w w' := by
  have H := Lib.hid (fun W F first cap => of_none (w := W) (F := F) (first := first) (cap := cap))
  go_enter Try.func15, Try.ntmps15
  go_wp2_with fail
  refine (H.out _ _ _ _).mono ?_
  rintro e w1 ⟨rfl, hf⟩
  have hB : Bk w1 (w.heap.size + 1 + 1) 3 #[.int .i64 0] := Bk.fr (S := Nil) (by (repeat' (first | ((with_reducible refine new' ?_); simp; done) | with_reducible refine Bk.alloc ?_ _ | with_reducible refine Bk.far ?_ (by dsimp only; omega) _ | with_reducible refine Bk.drewN ?_ _ | with_reducible refine Bk.drew ?_))) hf id
  obtain ⟨y0, y1⟩ := hB.c1
  have HB := Lib.hid hB
  have g1 : Fr Nil w w1 := Fr.trans (by (repeat' (with_reducible first | refine Fr.setCell ?_ (fun hlt => absurd hlt (by dsimp only; omega)) _ | refine Fr.alloc ?_ _ | refine Fr.drewN ?_ _ | refine Fr.drew ?_ | exact Fr.refl _ _))) hf
  have HG := Lib.hid g1
  clear hf hB g1
  go_wp2_with fail
  obtain ⟨z0, z1⟩ := (HB.out.put 0 (.int .i64 0)).c1
  refine bodyPost_ret (v := .tuple #[.int .i64 0, .bool false]) (by simp [results, Try.results15, go_sem, z0]) rfl ⟨rfl, HG.out.setCell (fun hlt => absurd hlt (by simp; omega)) _⟩
end
end Go.Proofs.Ytemofdbepalnkaa.PoolC
