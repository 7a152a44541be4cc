/- Chapter 6: Give of a node that is not taken, Take of a full pool. -/
import Derived.Test.YtemofdbepalnkaaPoolD
namespace Go.Proofs.Ytemofdbepalnkaa.PoolE
open Go.RowKit Base Slices Quiet TrapA TrapB TrapG TrapV PoolA PoolB PoolC PoolD
set_option linter.unusedVariables false
set_option linter.unusedSimpArgs false

section
variable (w : World)
set_option maxHeartbeats 8000000 in
theorem give1_bad {a b g : Nat} {v : Value} {l : List Slot} {free n i : Int} {most : Nat} (ha : Bk w a 23 #[.pointer (some ⟨g, 0, none⟩)]) (hb : Bk w b 3 #[.int .i64 i])
    (h : Pl w g v l free n most) (hi : ∀ (k : Nat) (p : Slot), i = (k : Int) + 1 → l[k]? = some p → p.2.2 = false) (hl : l.length ≤ 1048576) (hab : ¬ Foot g v a ∧ ¬ Foot g v b) :
    Calls Try.prog 21 #[.pointer (some ⟨a, 0, none⟩), .pointer (some ⟨b, 0, none⟩)] w fun e w' => e = .panicked [fault i 6] ∧ Fr Nil w w' := by
  have hbad := fun W (hW : Fr Nil w W) => at_bad W (h.nil hW) hi hl
  obtain ⟨a0, _⟩ := ha.c1
  obtain ⟨q0, _⟩ := hb.c1
  obtain ⟨e0, e1, e2, e3, f0, f1, f2, f3⟩ := h.1.c4
  have hag : ¬ a = g := fun e => hab.1 (Or.inl e)
  have hbg' : ¬ b = g := fun e => hab.2 (Or.inl e)
  have hag2 : ¬ g = a := fun e => hag e.symm
  have hbg2 : ¬ g = b := fun e => hbg' e.symm
  have H := Lib.hid hbad
  clear hbad h hi ha hb hab hl
  go_enter Try.func21, Try.ntmps21
  go_wp2_with fail
  go_region_with
    ((go_at_call 22; refine (orFalse (.pointer (some ⟨g, 5, none⟩)) (H.out _ (by (repeat' (with_reducible first | refine Fr.setCell ?_ (fun hlt => absurd hlt (by dsimp only; omega)) _ | refine Fr.alloc ?_ _ | refine Fr.drewN ?_ _ | refine Fr.drew ?_ | exact Fr.refl _ _))))).mono ?_; rintro e w1 (⟨rfl, rfl⟩ | ⟨hF, rfl, rfl⟩); exact ⟨rfl, rfl, by (repeat' (with_reducible first | refine Fr.setCell ?_ (fun hlt => absurd hlt (by dsimp only; omega)) _ | refine Fr.alloc ?_ _ | refine Fr.drewN ?_ _ | refine Fr.drew ?_ | exact Fr.refl _ _))⟩; have x5 : w.cell? ⟨g, 5, none⟩ = some (.int .i64 0) := hF.out.elim; have x6 : w.cell? ⟨g, 6, none⟩ = some (.int .i64 0) := hF.out.elim; have x7 : w.cell? ⟨g, 7, none⟩ = some (.bool false) := hF.out.elim; have y5 : w.frozen? ⟨g, 5, none⟩ = false := hF.out.elim; have y6 : w.frozen? ⟨g, 6, none⟩ = false := hF.out.elim; have y7 : w.frozen? ⟨g, 7, none⟩ = false := hF.out.elim))
  all_goals exact hF.out.elim

set_option maxHeartbeats 2000000 in
theorem Give_bad {g : Nat} {v : Value} {l : List Slot} {free n i : Int} {most : Nat} (h : Pl w g v l free n most) (hi : ∀ (k : Nat) (p : Slot), i = (k : Int) + 1 → l[k]? = some p → p.2.2 = false) (hl : l.length ≤ 1048576) :
    Calls Try.prog 7 #[.pointer (some ⟨g, 0, none⟩), .int .i64 i] w fun e w' => e = .returned (.int .i64 6) ∧ Fr Nil w w' := by
  have hRun : RunsG 21 (#[] ++ #[.pointer (some ⟨w.heap.size, 0, none⟩), .pointer (some ⟨w.heap.size + 1, 0, none⟩)]) ((w.alloc (.cells #[.pointer (some ⟨g, 0, none⟩)] 23)).alloc (.cells #[.int .i64 i] 3)) Nil (.panicked [fault i 6]) (fun W w' => True) := fun W hW => by
    have h0 : Fr Nil w W := Fr.trans (by (repeat' (with_reducible first | refine Fr.setCell ?_ (fun hlt => absurd hlt (by dsimp only; omega)) _ | refine Fr.alloc ?_ _ | refine Fr.drewN ?_ _ | refine Fr.drew ?_ | exact Fr.refl _ _))) hW
    rw [Array.empty_append]
    exact (give1_bad W (Bk.fr (S := Nil) (by (repeat' (first | ((with_reducible refine new' ?_); simp; done) | with_reducible refine Bk.alloc ?_ _ | with_reducible refine Bk.far ?_ (by dsimp only; omega) _ | with_reducible refine Bk.drewN ?_ _ | with_reducible refine Bk.drew ?_))) hW id) (Bk.fr (S := Nil) (by (repeat' (first | ((with_reducible refine new' ?_); simp; done) | with_reducible refine Bk.alloc ?_ _ | with_reducible refine Bk.far ?_ (by dsimp only; omega) _ | with_reducible refine Bk.drewN ?_ _ | with_reducible refine Bk.drew ?_))) hW id) (h.nil h0) hi hl ⟨fun s => by have := h.lt _ s; omega, fun s => by have := h.lt _ s; omega⟩).mono fun e w' ⟨e1, e2⟩ => ⟨e1, e2, trivial⟩
  have HC := Lib.hid (of_fault (g := g) (first := #[]) (fun k hk => hk.elim) enters_give1 hRun)
  clear hRun h hi
  go_enter Try.func7, Try.ntmps7
  go_wp2_with fail
  refine HC.out.mono ?_
  rintro e w1 ⟨rfl, hf, _⟩
  have HG := Lib.hid (show Fr Nil w w1 from Fr.trans (by (repeat' (with_reducible first | refine Fr.setCell ?_ (fun hlt => absurd hlt (by dsimp only; omega)) _ | refine Fr.alloc ?_ _ | refine Fr.drewN ?_ _ | refine Fr.drew ?_ | exact Fr.refl _ _))) hf)
  clear hf
  go_wp2_with fail
  exact bodyPost_ret (v := .int .i64 6) (by simp [results, Try.results7, go_sem]) rfl ⟨rfl, HG.out⟩

theorem take_full {g : Nat} {v : Value} {l : List Slot} {n x : Int} {most : Nat} (h : Pl w g v l 0 n most) (hm : most ≤ l.length) (hl : l.length ≤ 1048576) :
    Calls Try.prog 25 #[.pointer (some ⟨g, 0, none⟩), .int .i64 x] w fun e w' => e = .panicked [fault 0 4] ∧ Fr Nil w w' := by
  have H := Lib.hid (fresh_full w h hm hl)
  clear h
  go_enter Try.func25, Try.ntmps25
  go_wp2_with fail
  refine H.out.mono ?_
  rintro e w1 ⟨rfl, hf⟩
  exact ⟨rfl, rfl, hf⟩
theorem take1_full {a b g : Nat} {v : Value} {l : List Slot} {n x : Int} {most : Nat} (ha : Bk w a 23 #[.pointer (some ⟨g, 0, none⟩)]) (hb : Bk w b 3 #[.int .i64 x]) (h : Pl w g v l 0 n most) (hm : most ≤ l.length) (hl : l.length ≤ 1048576) :
    Calls Try.prog 24 #[.pointer (some ⟨a, 0, none⟩), .pointer (some ⟨b, 0, none⟩)] w fun e w' => e = .panicked [fault 0 4] ∧ Fr Nil w w' := by
  have H := Lib.hid (take_full w (x := x) h hm hl)
  obtain ⟨a0, _⟩ := ha.c1
  obtain ⟨b0, _⟩ := hb.c1
  clear h ha hb
  go_enter Try.func24, Try.ntmps24
  go_wp2_with fail
  refine H.out.mono ?_
  rintro e w1 ⟨rfl, hf⟩
  exact ⟨rfl, rfl, hf⟩
set_option maxHeartbeats 2000000 in
theorem Take_full {g : Nat} {v : Value} {l : List Slot} {n x : Int} {most : Nat} (h : Pl w g v l 0 n most) (hm : most ≤ l.length) (hl : l.length ≤ 1048576) :
    Calls Try.prog 8 #[.pointer (some ⟨g, 0, none⟩), .int .i64 x] w fun e w' => e = .returned (.tuple #[.int .i64 0, .int .i64 4]) ∧ Fr Nil w w' := by
  have hRun : RunsG 24 (#[] ++ #[.pointer (some ⟨w.heap.size, 0, none⟩), .pointer (some ⟨w.heap.size + 1, 0, none⟩)]) ((w.alloc (.cells #[.pointer (some ⟨g, 0, none⟩)] 23)).alloc (.cells #[.int .i64 x] 3)) Nil (.panicked [fault 0 4]) (fun W w' => True) := fun W hW => by
    have h0 : Fr Nil w W := Fr.trans (by (repeat' (with_reducible first | refine Fr.setCell ?_ (fun hlt => absurd hlt (by dsimp only; omega)) _ | refine Fr.alloc ?_ _ | refine Fr.drewN ?_ _ | refine Fr.drew ?_ | exact Fr.refl _ _))) hW
    rw [Array.empty_append]
    exact (take1_full W (Bk.fr (S := Nil) (by (repeat' (first | ((with_reducible refine new' ?_); simp; done) | with_reducible refine Bk.alloc ?_ _ | with_reducible refine Bk.far ?_ (by dsimp only; omega) _ | with_reducible refine Bk.drewN ?_ _ | with_reducible refine Bk.drew ?_))) hW id) (Bk.fr (S := Nil) (by (repeat' (first | ((with_reducible refine new' ?_); simp; done) | with_reducible refine Bk.alloc ?_ _ | with_reducible refine Bk.far ?_ (by dsimp only; omega) _ | with_reducible refine Bk.drewN ?_ _ | with_reducible refine Bk.drew ?_))) hW id) (h.nil h0) hm hl).mono fun e w' ⟨e1, e2⟩ => ⟨e1, e2, trivial⟩
  have HC := Lib.hid (ValueG_fault (first := #[]) (fun k hk => hk.elim) enters_take1 hRun)
  clear hRun h
  go_enter Try.func8, Try.ntmps8
  go_wp2_with fail
  refine HC.out.mono ?_
  rintro e w1 ⟨rfl, hf, _⟩
  have HG := Lib.hid (show Fr Nil w w1 from Fr.trans (by (repeat' (with_reducible first | refine Fr.setCell ?_ (fun hlt => absurd hlt (by dsimp only; omega)) _ | refine Fr.alloc ?_ _ | refine Fr.drewN ?_ _ | refine Fr.drew ?_ | exact Fr.refl _ _))) hf)
  clear hf
  go_wp2_with fail
  exact bodyPost_ret (v := .tuple #[.int .i64 0, .int .i64 4]) (by simp [results, Try.results8, go_sem]) rfl ⟨rfl, HG.out⟩
end

/-- where the last one that was given stands, from 1 on; 0: there is none -/
def enc : List Nat → Int
  | [] => 0
  | g :: _ => (g : Int) + 1
/-- the nodes that were given, the last one first: each names the next, none is taken, none twice -/
def Chain (l : List Slot) : List Nat → Prop
  | [] => True
  | g :: gs => (∃ p, l[g]? = some p ∧ p.2.2 = false ∧ p.2.1 = enc gs) ∧ g ∉ gs ∧ Chain l gs
theorem Chain.set {l : List Slot} {k : Nat} {q : Slot} : ∀ {gs : List Nat}, Chain l gs → k ∉ gs → Chain (l.set k q) gs
  | [], _, _ => trivial
  | g :: gs, ⟨⟨p, h1, h2⟩, h3, h4⟩, hk => by
    simp at hk
    exact ⟨⟨p, by rw [List.getElem?_set_ne (fun e => hk.1 e)]; exact h1, h2⟩, h3, Chain.set h4 hk.2⟩
theorem Chain.more {l m : List Slot} : ∀ {gs : List Nat}, Chain l gs → Chain (l ++ m) gs
  | [], _ => trivial
  | g :: gs, ⟨⟨p, h1, h2⟩, h3, h4⟩ => ⟨⟨p, by rw [List.getElem?_append_left (List.getElem?_eq_some_iff.1 h1).1]; exact h1, h2⟩, h3, Chain.more h4⟩
/-- one that is taken is not among them -/
theorem Chain.out {l : List Slot} {k : Nat} {p : Slot} (hp : l[k]? = some p) (ht : p.2.2 = true) : ∀ {gs : List Nat}, Chain l gs → k ∉ gs
  | [], _ => by simp
  | g :: gs, ⟨⟨q, h1, h2, _⟩, h3, h4⟩ => by
    have := Chain.out hp ht h4
    intro hk
    rcases List.mem_cons.1 hk with rfl | hk
    · rw [hp] at h1
      simp at h1
      subst h1
      rw [ht] at h2
      cases h2
    · exact this hk
/-- which numbers are taken -/
def tk (l : List Slot) (j : Nat) : Bool := match j with | 0 => false | j + 1 => match l[j]? with | some p => p.2.2 | none => false
theorem tk_set {l : List Slot} {k : Nat} (hk : k < l.length) (q : Slot) (j : Nat) : tk (l.set k q) j = if j = k + 1 then q.2.2 else tk l j := by
  unfold tk
  cases j with
  | zero => simp
  | succ j =>
    simp only [Nat.add_right_cancel_iff]
    by_cases h : j = k
    · subst h
      simp [hk]
    · rw [List.getElem?_set_ne (fun e => h e.symm), if_neg h]
theorem tk_snoc (l : List Slot) (q : Slot) (j : Nat) : tk (l ++ [q]) j = if j = l.length + 1 then q.2.2 else tk l j := by
  unfold tk
  cases j with
  | zero => simp
  | succ j =>
    simp only [Nat.add_right_cancel_iff]
    rcases Nat.lt_trichotomy j l.length with h | h | h
    · rw [List.getElem?_append_left h, if_neg (by omega)]
    · subst h; simp
    · rw [List.getElem?_append_right (by omega), if_neg (by omega), List.getElem?_eq_none (by simp; omega), List.getElem?_eq_none (by omega)]
end Go.Proofs.Ytemofdbepalnkaa.PoolE
