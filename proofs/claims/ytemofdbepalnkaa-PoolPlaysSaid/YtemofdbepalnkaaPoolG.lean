/- Chapter 6: Set, Get of a node that is not taken, Len, Room, Reserve, Clear. -/
import Derived.Test.YtemofdbepalnkaaPoolE
namespace Go.Proofs.Ytemofdbepalnkaa.PoolG
open Go.RowKit Base Slices Quiet TrapA TrapB TrapG TrapV PoolA PoolB PoolC PoolD PoolE
set_option linter.unusedVariables false
set_option linter.unusedSimpArgs false

section
variable (w : World)
theorem enters_set1 : Enters 31 := fun _ _ => by simp [go_sem]
set_option maxHeartbeats 8000000 in
theorem set1_ok {a b c g k : Nat} {v : Value} {l : List Slot} {free n x : Int} {most : Nat} {p : Slot} (hcx : Bk w c 3 #[.int .i64 x]) (ha : Bk w a 23 #[.pointer (some ⟨g, 0, none⟩)]) (hb : Bk w b 3 #[.int .i64 ((k : Int) + 1)])
    (h : Pl w g v l free n most) (hp : l[k]? = some p) (ht : p.2.2 = true) (hl : l.length ≤ 1048576) (hab : ¬ Foot g v a ∧ ¬ Foot g v b ∧ ¬ Foot g v c) :
    Calls Try.prog 31 #[.pointer (some ⟨c, 0, none⟩), .pointer (some ⟨a, 0, none⟩), .pointer (some ⟨b, 0, none⟩)] w fun e w' => e = .returned (.tuple #[]) ∧ Fr (Foot g v) w w' ∧ Held w g v (l.set k (x, p.2)) free n most w' := by
  obtain ⟨b1, c1, hv, hc, hbg, hbl, hk, d0, d1, d2, fz⟩ := h.slot hp
  subst hv
  have hat := fun W (hW : Fr Nil w W) => at_at W (h.nil hW) hp ht hl
  obtain ⟨a0, _⟩ := ha.c1
  obtain ⟨q0, _⟩ := hb.c1
  obtain ⟨x0, _⟩ := hcx.c1
  have z0 := fz (k * 3)
  have hab1 : ¬ a = b1 := fun e => hab.1 (Or.inr (by rw [e]; rfl))
  have hbb : ¬ b = b1 := fun e => hab.2.1 (Or.inr (by rw [e]; rfl))
  have hcb : ¬ c = b1 := fun e => hab.2.2 (Or.inr (by rw [e]; rfl))
  have hgb : ¬ g = b1 := fun e => hbg e.symm
  have hab2 : ¬ b1 = a := fun e => hab1 e.symm
  have hbb2 : ¬ b1 = b := fun e => hbb e.symm
  have hcb2 : ¬ b1 = c := fun e => hcb e.symm
  have hk3 : (k : Int) ≤ 1048576 := by omega
  have HAT := Lib.hid hat
  have H := Lib.hid h
  have HP := Lib.hid hp
  clear hat h hp ht ha hb hcx fz hc hab
  go_enter Try.func31, Try.ntmps31
  go_wp2_with fail
  go_region_held3 (fun w' => w'.cell? ⟨a, 0, none⟩ = some (.pointer (some ⟨g, 0, none⟩)) ∧ w'.cell? ⟨b, 0, none⟩ = some (.int .i64 ((k : Int) + 1)) ∧ w'.cell? ⟨c, 0, none⟩ = some (.int .i64 x)) (first | (go_keep; done))
    ((go_at_call 22; refine (HAT.out _ (by (repeat' (with_reducible first | refine Fr.setCell ?_ (fun hlt => absurd hlt (by dsimp only; omega)) _ | refine Fr.alloc ?_ _ | refine Fr.drewN ?_ _ | refine Fr.drew ?_ | exact Fr.refl _ _)))).mono ?_; rintro e w1 ⟨rfl, rfl⟩))
  go_wp2_with fail
  go_end0
  have e1 := own_set1 H.out.2 x HP.out
  have hfb : Fr (fun k => k = b1) w (w.setCell ⟨b1, k * 3, none⟩ (.int .i64 x)) := Fr.setCell (p := ⟨b1, k * 3, none⟩) (Fr.refl (fun k => k = b1) w) (fun _ => rfl) _
  exact ⟨rfl, (hfb.mono fun j hj _ => Or.inr (by rw [hj]; rfl)).drew, _, ⟨(H.out.1.fr hfb (fun s => hgb s)).drew, e1.fr (S := Nil) (Fr.refl _ _).drew (fun _ _ s => s)⟩, fun j hj => Or.inl hj⟩

set_option maxHeartbeats 8000000 in
theorem set1_bad {a b c g : Nat} {v : Value} {l : List Slot} {free n i x : Int} {most : Nat} (hcx : Bk w c 3 #[.int .i64 x]) (ha : Bk w a 23 #[.pointer (some ⟨g, 0, none⟩)]) (hb : Bk w b 3 #[.int .i64 i])
    (h : Pl w g v l free n most) (hi : ∀ (k : Nat) (p : Slot), i = (k : Int) + 1 → l[k]? = some p → p.2.2 = false) (hl : l.length ≤ 1048576) (hgc : g ≠ c) :
    Calls Try.prog 31 #[.pointer (some ⟨c, 0, none⟩), .pointer (some ⟨a, 0, none⟩), .pointer (some ⟨b, 0, none⟩)] w fun e w' => e = .panicked [fault i 6] ∧ Fr Nil w w' := by
  have hbad := fun W (hW : Fr Nil w W) => at_bad W (h.nil hW) hi hl
  obtain ⟨a0, _⟩ := ha.c1
  obtain ⟨q0, _⟩ := hb.c1
  obtain ⟨x0, _⟩ := hcx.c1
  have H := Lib.hid hbad
  have hcg : ¬ c = g := fun e => hgc e.symm
  clear hbad h hi ha hb hcx hl
  go_enter Try.func31, Try.ntmps31
  go_wp2_with fail
  go_region_with
    ((go_at_call 22; refine (orFalse (.pointer (some ⟨g, 5, none⟩)) (H.out _ (by (repeat' (with_reducible first | refine Fr.setCell ?_ (fun hlt => absurd hlt (by dsimp only; omega)) _ | refine Fr.alloc ?_ _ | refine Fr.drewN ?_ _ | refine Fr.drew ?_ | exact Fr.refl _ _))))).mono ?_; rintro e w1 (⟨rfl, rfl⟩ | ⟨hF, rfl, rfl⟩); exact ⟨rfl, rfl, by (repeat' (with_reducible first | refine Fr.setCell ?_ (fun hlt => absurd hlt (by dsimp only; omega)) _ | refine Fr.alloc ?_ _ | refine Fr.drewN ?_ _ | refine Fr.drew ?_ | exact Fr.refl _ _))⟩; have x5 : w.cell? ⟨g, 5, none⟩ = some (.int .i64 0) := hF.out.elim; have y5 : w.frozen? ⟨g, 5, none⟩ = false := hF.out.elim))
  all_goals exact hF.out.elim

theorem get1_bad {a b d g : Nat} {v : Value} {l : List Slot} {free n i : Int} {most : Nat} (ha : Bk w a 23 #[.pointer (some ⟨g, 0, none⟩)]) (hb : Bk w b 3 #[.int .i64 i])
    (h : Pl w g v l free n most) (hi : ∀ (k : Nat) (p : Slot), i = (k : Int) + 1 → l[k]? = some p → p.2.2 = false) (hl : l.length ≤ 1048576) :
    Calls Try.prog 30 #[.pointer (some ⟨a, 0, none⟩), .pointer (some ⟨b, 0, none⟩), .pointer (some ⟨d, 0, none⟩)] w fun e w' => e = .panicked [fault i 6] ∧ Fr Nil w w' := by
  have H := Lib.hid (at_bad w h hi hl)
  obtain ⟨a0, _⟩ := ha.c1
  obtain ⟨q0, _⟩ := hb.c1
  clear h hi ha hb hl
  go_enter Try.func30, Try.ntmps30
  go_wp2_with fail
  refine H.out.mono ?_
  rintro e w1 ⟨rfl, rfl⟩
  exact ⟨rfl, rfl, Fr.refl _ _⟩

set_option maxHeartbeats 2000000 in
theorem Set_ok {g k : Nat} {v : Value} {l : List Slot} {free n x : Int} {most : Nat} {p : Slot} (h : Pl w g v l free n most) (hp : l[k]? = some p) (ht : p.2.2 = true) (hl : l.length ≤ 1048576) :
    Calls Try.prog 18 #[.pointer (some ⟨g, 0, none⟩), .int .i64 ((k : Int) + 1), .int .i64 x] w fun e w' => e = .returned (.int .i64 0) ∧ Fr (Foot g v) w w' ∧ Held w g v (l.set k (x, p.2)) free n most w' := by
  have hRun : RunsG 31 (#[] ++ #[.pointer (some ⟨w.heap.size + 1 + 1, 0, none⟩), .pointer (some ⟨w.heap.size, 0, none⟩), .pointer (some ⟨w.heap.size + 1, 0, none⟩)]) (((w.alloc (.cells #[.pointer (some ⟨g, 0, none⟩)] 23)).alloc (.cells #[.int .i64 ((k : Int) + 1)] 3)).alloc (.cells #[.int .i64 x] 3)) (Foot g v) (.returned (.tuple #[])) (fun W w' => Held W g v (l.set k (x, p.2)) free n most w') := fun W hW => by
    have h0 : Fr Nil w W := Fr.trans (by (repeat' (with_reducible first | refine Fr.setCell ?_ (fun hlt => absurd hlt (by dsimp only; omega)) _ | refine Fr.alloc ?_ _ | refine Fr.drewN ?_ _ | refine Fr.drew ?_ | exact Fr.refl _ _))) hW
    rw [Array.empty_append]
    exact set1_ok W (Bk.fr (S := Nil) (by (repeat' (first | ((with_reducible refine new' ?_); simp; done) | with_reducible refine Bk.alloc ?_ _ | with_reducible refine Bk.far ?_ (by dsimp only; omega) _ | with_reducible refine Bk.drewN ?_ _ | with_reducible refine Bk.drew ?_))) hW id) (Bk.fr (S := Nil) (by (repeat' (first | ((with_reducible refine new' ?_); simp; done) | with_reducible refine Bk.alloc ?_ _ | with_reducible refine Bk.far ?_ (by dsimp only; omega) _ | with_reducible refine Bk.drewN ?_ _ | with_reducible refine Bk.drew ?_))) hW id) (Bk.fr (S := Nil) (by (repeat' (first | ((with_reducible refine new' ?_); simp; done) | with_reducible refine Bk.alloc ?_ _ | with_reducible refine Bk.far ?_ (by dsimp only; omega) _ | with_reducible refine Bk.drewN ?_ _ | with_reducible refine Bk.drew ?_))) hW id) (h.nil h0) hp ht hl ⟨fun s => by have := h.lt _ s; omega, fun s => by have := h.lt _ s; omega, fun s => by have := h.lt _ s; omega⟩
  have HC := Lib.hid (of_ret (g := g) (first := #[]) (fun k hk => by have := h.lt k hk; simp; omega) enters_set1 hRun)
  have hlt := Lib.hid h.lt
  have hk3 : (k : Int) ≤ 1048576 := by have := (List.getElem?_eq_some_iff.1 hp).1; omega
  clear hRun h ht hp
  go_enter Try.func18, Try.ntmps18
  go_wp2_with fail
  refine HC.out.mono ?_
  rintro e w1 ⟨rfl, hf, hL⟩
  have hP := Held.left (fun k hk => by have := hlt.out k hk; simp; omega) hL
  have HP := Lib.hid (Held.since (w := w) hP (by simp; omega))
  have HG := Lib.hid (show Fr (Foot g v) w w1 from Fr.trans (by (repeat' (with_reducible first | refine Fr.setCell ?_ (fun hlt => absurd hlt (by dsimp only; omega)) _ | refine Fr.alloc ?_ _ | refine Fr.drewN ?_ _ | refine Fr.drew ?_ | exact Fr.refl _ _))) hf)
  clear hL hP hf
  go_wp2_with fail
  exact bodyPost_ret (v := .int .i64 0) (by simp [results, Try.results18, go_sem]) rfl ⟨rfl, HG.out, HP.out⟩
set_option maxHeartbeats 2000000 in
theorem Set_bad {g : Nat} {v : Value} {l : List Slot} {free n i x : Int} {most : Nat} (h : Pl w g v l free n most) (hi : ∀ (k : Nat) (p : Slot), i = (k : Int) + 1 → l[k]? = some p → p.2.2 = false) (hl : l.length ≤ 1048576) :
    Calls Try.prog 18 #[.pointer (some ⟨g, 0, none⟩), .int .i64 i, .int .i64 x] w fun e w' => e = .returned (.int .i64 6) ∧ Fr Nil w w' := by
  have hRun : RunsG 31 (#[] ++ #[.pointer (some ⟨w.heap.size + 1 + 1, 0, none⟩), .pointer (some ⟨w.heap.size, 0, none⟩), .pointer (some ⟨w.heap.size + 1, 0, none⟩)]) (((w.alloc (.cells #[.pointer (some ⟨g, 0, none⟩)] 23)).alloc (.cells #[.int .i64 i] 3)).alloc (.cells #[.int .i64 x] 3)) Nil (.panicked [fault i 6]) (fun W w' => True) := fun W hW => by
    have h0 : Fr Nil w W := Fr.trans (by (repeat' (with_reducible first | refine Fr.setCell ?_ (fun hlt => absurd hlt (by dsimp only; omega)) _ | refine Fr.alloc ?_ _ | refine Fr.drewN ?_ _ | refine Fr.drew ?_ | exact Fr.refl _ _))) hW
    rw [Array.empty_append]
    exact (set1_bad W (Bk.fr (S := Nil) (by (repeat' (first | ((with_reducible refine new' ?_); simp; done) | with_reducible refine Bk.alloc ?_ _ | with_reducible refine Bk.far ?_ (by dsimp only; omega) _ | with_reducible refine Bk.drewN ?_ _ | with_reducible refine Bk.drew ?_))) hW id) (Bk.fr (S := Nil) (by (repeat' (first | ((with_reducible refine new' ?_); simp; done) | with_reducible refine Bk.alloc ?_ _ | with_reducible refine Bk.far ?_ (by dsimp only; omega) _ | with_reducible refine Bk.drewN ?_ _ | with_reducible refine Bk.drew ?_))) hW id) (Bk.fr (S := Nil) (by (repeat' (first | ((with_reducible refine new' ?_); simp; done) | with_reducible refine Bk.alloc ?_ _ | with_reducible refine Bk.far ?_ (by dsimp only; omega) _ | with_reducible refine Bk.drewN ?_ _ | with_reducible refine Bk.drew ?_))) hW id) (h.nil h0) hi hl (by have := h.lt g (Or.inl rfl); omega)).mono fun e w' ⟨e1, e2⟩ => ⟨e1, e2, trivial⟩
  have HC := Lib.hid (of_fault (g := g) (first := #[]) (fun k hk => hk.elim) enters_set1 hRun)
  clear hRun h hi
  go_enter Try.func18, Try.ntmps18
  go_wp2_with fail
  refine HC.out.mono ?_
  rintro e w1 ⟨rfl, hf, _⟩
  have HG := Lib.hid (show Fr Nil w w1 from Fr.trans (by (repeat' (with_reducible first | refine Fr.setCell ?_ (fun hlt => absurd hlt (by dsimp only; omega)) _ | refine Fr.alloc ?_ _ | refine Fr.drewN ?_ _ | refine Fr.drew ?_ | exact Fr.refl _ _))) hf)
  clear hf
  go_wp2_with fail
  exact bodyPost_ret (v := .int .i64 6) (by simp [results, Try.results18, go_sem]) rfl ⟨rfl, HG.out⟩
set_option maxHeartbeats 2000000 in
theorem Get_bad {g : Nat} {v : Value} {l : List Slot} {free n i : Int} {most : Nat} (h : Pl w g v l free n most) (hi : ∀ (k : Nat) (p : Slot), i = (k : Int) + 1 → l[k]? = some p → p.2.2 = false) (hl : l.length ≤ 1048576) :
    Calls Try.prog 15 #[.pointer (some ⟨g, 0, none⟩), .int .i64 i] w fun e w' => e = .returned (.tuple #[.int .i64 0, .bool false]) ∧ Fr Nil w w' := by
  have hRun : RunsG 30 (#[] ++ #[.pointer (some ⟨w.heap.size, 0, none⟩), .pointer (some ⟨w.heap.size + 1, 0, none⟩), .pointer (some ⟨w.heap.size + 1 + 1, 0, none⟩)]) (((w.alloc (.cells #[.pointer (some ⟨g, 0, none⟩)] 23)).alloc (.cells #[.int .i64 i] 3)).alloc (.cells #[.int .i64 0] 3)) Nil (.panicked [fault i 6]) (fun W w' => True) := fun W hW => by
    have h0 : Fr Nil w W := Fr.trans (by (repeat' (with_reducible first | refine Fr.setCell ?_ (fun hlt => absurd hlt (by dsimp only; omega)) _ | refine Fr.alloc ?_ _ | refine Fr.drewN ?_ _ | refine Fr.drew ?_ | exact Fr.refl _ _))) hW
    rw [Array.empty_append]
    exact (get1_bad W (Bk.fr (S := Nil) (by (repeat' (first | ((with_reducible refine new' ?_); simp; done) | with_reducible refine Bk.alloc ?_ _ | with_reducible refine Bk.far ?_ (by dsimp only; omega) _ | with_reducible refine Bk.drewN ?_ _ | with_reducible refine Bk.drew ?_))) hW id) (Bk.fr (S := Nil) (by (repeat' (first | ((with_reducible refine new' ?_); simp; done) | with_reducible refine Bk.alloc ?_ _ | with_reducible refine Bk.far ?_ (by dsimp only; omega) _ | with_reducible refine Bk.drewN ?_ _ | with_reducible refine Bk.drew ?_))) hW id) (h.nil h0) hi hl).mono fun e w' ⟨e1, e2⟩ => ⟨e1, e2, trivial⟩
  have HC := Lib.hid (of_fault (g := g) (first := #[]) (fun k hk => hk.elim) enters_get1 hRun)
  clear hRun h hi
  go_enter Try.func15, Try.ntmps15
  go_wp2_with fail
  refine HC.out.mono ?_
  rintro e w1 ⟨rfl, hf, _⟩
  have hB : Bk w1 (w.heap.size + 1 + 1) 3 #[.int .i64 0] := Bk.fr (S := Nil) (by (repeat' (first | ((with_reducible refine new' ?_); simp; done) | with_reducible refine Bk.alloc ?_ _ | with_reducible refine Bk.far ?_ (by dsimp only; omega) _ | with_reducible refine Bk.drewN ?_ _ | with_reducible refine Bk.drew ?_))) hf id
  obtain ⟨y0, y1⟩ := hB.c1
  have HB := Lib.hid hB
  have HG := Lib.hid (show Fr Nil w w1 from Fr.trans (by (repeat' (with_reducible first | refine Fr.setCell ?_ (fun hlt => absurd hlt (by dsimp only; omega)) _ | refine Fr.alloc ?_ _ | refine Fr.drewN ?_ _ | refine Fr.drew ?_ | exact Fr.refl _ _))) hf)
  clear hf hB
  go_wp2_with fail
  obtain ⟨z0, z1⟩ := (HB.out.put 0 (.int .i64 0)).c1
  refine bodyPost_ret (v := .tuple #[.int .i64 0, .bool false]) (by simp [results, Try.results15, go_sem, z0]) rfl ⟨rfl, HG.out.setCell (fun hlt => absurd hlt (by simp; omega)) _⟩

set_option maxHeartbeats 1000000 in
theorem Len_any {g : Nat} {v : Value} {l : List Slot} {free n : Int} {most : Nat} (h : Pl w g v l free n most) :
    Calls Try.prog 11 #[.pointer (some ⟨g, 0, none⟩)] w fun e w' => e = .returned (.int .i64 n) ∧ Fr Nil w w' := by
  obtain ⟨c0, c1, c2, c3, _, _, _, _⟩ := h.1.c4
  go_enter Try.func11, Try.ntmps11
  go_wp2_with fail
  exact bodyPost_ret (v := .int .i64 n) (by simp [results, Try.results11, go_sem]) rfl ⟨rfl, by (repeat' (with_reducible first | refine Fr.setCell ?_ (fun hlt => absurd hlt (by dsimp only; omega)) _ | refine Fr.alloc ?_ _ | refine Fr.drewN ?_ _ | refine Fr.drew ?_ | exact Fr.refl _ _))⟩
set_option maxHeartbeats 1000000 in
theorem room_any {g : Nat} {v : Value} {l : List Slot} {free n : Int} {most : Nat} (h : Pl w g v l free n most) (hn : 0 ≤ n ∧ n ≤ 1048576) (hm : most ≤ 1048576) :
    Calls Try.prog 29 #[.pointer (some ⟨g, 0, none⟩)] w fun e w' => e = .returned (.int .i64 ((most : Int) - n)) ∧ Fr Nil w w' := by
  obtain ⟨c0, c1, c2, c3, _, _, _, _⟩ := h.1.c4
  have hm' : (most : Int) ≤ 1048576 := by omega
  obtain ⟨n0, n1⟩ := hn
  go_enter Try.func29, Try.ntmps29
  go_wp2_with fail
  go_quiet (fail)
  go_wp2_with fail
  exact bodyPost_ret (v := .int .i64 ((most : Int) - n)) (by simp [results, Try.results29, go_sem]) rfl ⟨rfl, by (repeat' (with_reducible first | refine Fr.setCell ?_ (fun hlt => absurd hlt (by dsimp only; omega)) _ | refine Fr.alloc ?_ _ | refine Fr.drewN ?_ _ | refine Fr.drew ?_ | exact Fr.refl _ _))⟩
set_option maxHeartbeats 1000000 in
theorem Room_any {g : Nat} {v : Value} {l : List Slot} {free n : Int} {most : Nat} (h : Pl w g v l free n most) (hn : 0 ≤ n ∧ n ≤ 1048576) (hm : most ≤ 1048576) :
    Calls Try.prog 13 #[.pointer (some ⟨g, 0, none⟩)] w fun e w' => e = .returned (.int .i64 ((most : Int) - n)) ∧ Fr Nil w w' := by
  have K := Lib.hid (room_any w h hn hm)
  clear h
  go_enter Try.func13, Try.ntmps13
  go_wp2_with fail
  refine K.out.mono ?_
  rintro e w1 ⟨rfl, hf⟩
  go_wp2_with fail
  exact bodyPost_ret (v := .int .i64 ((most : Int) - n)) (by simp [results, Try.results13, go_sem]) rfl ⟨rfl, hf⟩
/-- what Reserve tells -/
def rsv (i r : Int) : Int := if i < 0 then 1 else if r < i then 4 else 0
set_option maxHeartbeats 1000000 in
theorem Reserve_any {g : Nat} {v : Value} {l : List Slot} {free n i : Int} {most : Nat} (h : Pl w g v l free n most) (hn : 0 ≤ n ∧ n ≤ 1048576) (hm : most ≤ 1048576) :
    Calls Try.prog 19 #[.pointer (some ⟨g, 0, none⟩), .int .i64 i] w fun e w' => e = .returned (.int .i64 (rsv i ((most : Int) - n))) ∧ Fr Nil w w' := by
  have K := Lib.hid (room_any w h hn hm)
  obtain ⟨r, hr⟩ : ∃ r, (most : Int) - n = r := ⟨_, rfl⟩
  rw [hr] at K ⊢
  clear h hr hn hm
  by_cases h1 : i < 0
  · rw [show rsv i r = 1 by unfold rsv; rw [if_pos h1]]
    go_enter Try.func19, Try.ntmps19
    go_wp2_with fail
    exact bodyPost_ret (v := .int .i64 1) (by simp [results, Try.results19, go_sem]) rfl ⟨rfl, by (repeat' (with_reducible first | refine Fr.setCell ?_ (fun hlt => absurd hlt (by dsimp only; omega)) _ | refine Fr.alloc ?_ _ | refine Fr.drewN ?_ _ | refine Fr.drew ?_ | exact Fr.refl _ _))⟩
  · have h1' : (0 : Int) ≤ i := by omega
    by_cases h2 : r < i
    · rw [show rsv i r = 4 by unfold rsv; rw [if_neg h1, if_pos h2]]
      go_enter Try.func19, Try.ntmps19
      go_wp2_with fail
      refine K.out.mono ?_
      rintro e w1 ⟨rfl, hf⟩
      go_wp2_with fail
      exact bodyPost_ret (v := .int .i64 4) (by simp [results, Try.results19, go_sem]) rfl ⟨rfl, hf⟩
    · rw [show rsv i r = 0 by unfold rsv; rw [if_neg h1, if_neg h2]]
      have h2' : i ≤ r := by omega
      go_enter Try.func19, Try.ntmps19
      go_wp2_with fail
      refine K.out.mono ?_
      rintro e w1 ⟨rfl, hf⟩
      go_wp2_with fail
      exact bodyPost_ret (v := .int .i64 0) (by simp [results, Try.results19, go_sem]) rfl ⟨rfl, hf⟩
set_option maxHeartbeats 1000000 in
theorem Clear_any {g : Nat} {v : Value} {l : List Slot} {free n : Int} {most : Nat} (h : Pl w g v l free n most) :
    Calls Try.prog 17 #[.pointer (some ⟨g, 0, none⟩)] w fun e w' => e = .returned (.tuple #[]) ∧ Fr (Foot g v) w w' ∧ Held w g v [] 0 0 most w' := by
  obtain ⟨c0, c1, c2, c3, f0, f1, f2, f3⟩ := h.1.c4
  have HB := Lib.hid h.1
  clear h
  go_enter Try.func17, Try.ntmps17
  go_wp2_with fail
  go_end0
  refine ⟨rfl, Fr.setCell (p := ⟨g, 3, none⟩) (Fr.setCell (p := ⟨g, 2, none⟩) (Fr.setCell (p := ⟨g, 1, none⟩) (Fr.setCell (p := ⟨g, 0, none⟩) (Fr.refl (Foot g v) w) (fun _ => Or.inl rfl) _) (fun _ => Or.inl rfl) _) (fun _ => Or.inl rfl) _) (fun _ => Or.inl rfl) _, .slice none 0 0, ⟨(((HB.out.put 0 _).put 1 _).put 2 _).put 3 _, Own.nil _ _⟩, fun k hk => by cases hk⟩
end
end Go.Proofs.Ytemofdbepalnkaa.PoolG
