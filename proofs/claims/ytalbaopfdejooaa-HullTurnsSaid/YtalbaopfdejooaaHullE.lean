/- Chapter 41: points in memory: which of two comes first; slices.Clone; a row that is rewritten; the walk of by. -/
import Derived.Test.YtalbaopfdejooaaHullD
import Derived.Test.YtalbaopfdejooaaAreaE
import Derived.BigRegion
namespace Go.Proofs.Ytalbaopfdejooaa.HullE
open Go.RowKit Base Slices RowsA KernA AreaA HullD Quiet
open HullA (D lt at_)
set_option linter.unusedVariables false
set_option linter.unusedSimpArgs false

set_option maxHeartbeats 4000000 in
theorem less_eq (i x y : Int) (w : World) : Calls Try.prog 43 #[.agg #[.int .i64 i, .int .i64 x, .int .i64 y], .agg #[.int .i64 i, .int .i64 x, .int .i64 y]] w fun e w' => e = .returned (.bool false) ∧ Fr Nil w w' := by
  go_enter Try.func43, Try.ntmps43
  go_wp2_with fail
  exact bodyPost_ret (v := .bool _) (by simp [results, Try.results43, go_sem] <;> omega) rfl ⟨rfl, by (repeat' (with_reducible first | refine Fr.setCell ?_ (fun hlt => absurd hlt (by dsimp only; omega)) _ | refine Fr.alloc ?_ _ | refine Fr.drewN ?_ _ | refine Fr.drew ?_ | exact Fr.refl _ _))⟩
theorem less_any (a b : Pn) (w : World) : Calls Try.prog 43 #[.agg #[.int .i64 a.1, .int .i64 a.2.1, .int .i64 a.2.2], .agg #[.int .i64 b.1, .int .i64 b.2.1, .int .i64 b.2.2]] w fun e w' => e = .returned (.bool (ltB a b)) ∧ Fr Nil w w' := by
  obtain ⟨i, x, y⟩ := a
  obtain ⟨j, u, v⟩ := b
  by_cases he : i = j ∧ x = u ∧ y = v
  · obtain ⟨rfl, rfl, rfl⟩ := he
    have e : ltB (i, x, y) (i, x, y) = false := by cases h : ltB (i, x, y) (i, x, y) with
      | false => rfl
      | true => rw [ltB_iff] at h; simp only at h; omega
    rw [e]
    exact less_eq i x y w
  · refine KernE.less_p i x y j u v w _ ?_
    cases h : ltB (i, x, y) (j, u, v) with
    | true =>
      rw [ltB_iff] at h
      simp only at h
      simp only [true_and, Bool.true_eq_false, false_and, false_or]
      omega
    | false =>
      have h' : ¬ ltB (i, x, y) (j, u, v) = true := by simp [h]
      rw [ltB_iff] at h'
      simp only at h'
      simp only [true_and, Bool.false_eq_true, false_and, false_or]
      omega

def lessV : Value := .func (.func 43) #[] #[]

set_option maxHeartbeats 1000000 in
theorem clone_some (l : List Pn) (g o cap : Nat) (w : World) (hl : l.length ≤ 100000) (hv : Sl EPt w (.slice (some ⟨g, o, none⟩) l.length cap) l) :
    Calls Try.prog 86 #[.slice (some ⟨g, o, none⟩) l.length cap] w fun e w' => ∃ u, e = .returned u ∧ Fr Nil w w' ∧ Own EPt w' w.heap.size u l ∧ u ≠ .slice none 0 0 := by
  have H1 := Lib.hid (hv.fr ((Fr.refl Nil w).alloc (.cells #[] 34)))
  have F1 := Lib.hid ((Fr.refl Nil w).alloc (.cells #[] 34))
  have O1 := Lib.hid (show Own EPt (w.alloc (.cells #[] 34)) w.heap.size (.slice (some ⟨w.heap.size, 0, none⟩) 0 0) [] from Own.made (E := EPt) (Nat.le_refl _) rfl)
  clear hv
  have hnil : ∀ W, (binOp .eql 22 (.slice (some ⟨g, o, none⟩) l.length cap) (.slice none 0 0)).run Try.prog W = .ok (.bool false) W := fun W => by kernel_rfl
  go_enter Try.func86, Try.ntmps86
  go_wp2_with (at_builtin; refine wpList_app EPt_ok rfl (.tmp 5) (.tmp 6) 22 rfl rfl w.heap.size _ _ [] l rfl O1.out rfl H1.out.come (by simp; omega) (by simp) ?_; intro v' w1 h1 h2 h3 h4)
  go_ret
  exact ⟨v', rfl, Fr.then F1.out h2 (fun i hi hlt => by have := (O1.out.lt i hi).1; omega), h1, fun e => by have := h4 e; cases this⟩

theorem clone_none (w : World) :
    Calls Try.prog 86 #[.slice none 0 0] w fun e w' => e = .returned (.slice none 0 0) ∧ Fr Nil w w' := by
  have hnil : ∀ W, (binOp .eql 22 (.slice none 0 0) (.slice none 0 0)).run Try.prog W = .ok (.bool true) W := fun W => by kernel_rfl
  go_enter Try.func86, Try.ntmps86
  go_wp2
  go_ret
  exact ⟨rfl, by (repeat' (with_reducible first | refine Fr.setCell ?_ (fun hlt => absurd hlt (by dsimp only; omega)) _ | refine Fr.alloc ?_ _ | refine Fr.drewN ?_ _ | refine Fr.drew ?_ | exact Fr.refl _ _))⟩

/-- a row of the call's own that may be rewritten -/
structure Mine (w0 : World) (g : Nat) (l : List Pn) (w : World) : Prop where
  row : Row EPt w g 0 l
  froz : ∀ i, w.frozen? ⟨g, i, none⟩ = false
  new : w0.heap.size ≤ g
  lt : g < w.heap.size
  fr : Fr Nil w0 w
section
variable {w0 w w' : World} {g : Nat} {l : List Pn}
theorem Mine.drewN (h : Mine w0 g l w) (n : Nat) : Mine w0 g l (w.drewN n) := ⟨h.row, h.froz, h.new, h.lt, h.fr.drewN n⟩
theorem Mine.drew (h : Mine w0 g l w) : Mine w0 g l w.drew := ⟨h.row, h.froz, h.new, h.lt, h.fr.drew⟩
theorem Mine.keep (h : Mine w0 g l w) (hf : Fr Nil w w') : Mine w0 g l w' :=
  ⟨h.row.fr hf h.lt id, fun i => (hf.frozen (p := ⟨g, i, none⟩) h.lt id).trans (h.froz i), h.new, Nat.lt_of_lt_of_le h.lt hf.size, h.fr.trans hf⟩
theorem Mine.at_ (h : Mine w0 g l w) {i : Nat} {p : Pn} (hp : l[i]? = some p) : w.cell? ⟨g, i * 3, none⟩ = some (.int .i64 p.1) ∧ w.cell? ⟨g, i * 3 + 1, none⟩ = some (.int .i64 p.2.1) ∧ w.cell? ⟨g, i * 3 + 2, none⟩ = some (.int .i64 p.2.2) := by
  have := pt_at h.row hp
  simpa using this
theorem Mine.sl (h : Mine w0 g l w) {cap : Nat} (hc : l.length ≤ cap) (n : Nat) (hn : n = l.length) : Sl EPt w (.slice (some ⟨g, 0, none⟩) n cap) l :=
  Or.inr ⟨g, 0, cap, by rw [hn], hc, h.lt, h.row⟩
theorem Mine.of_own {u : Value} (h : Own EPt w w0.heap.size u l) (hf : Fr Nil w0 w) (hn : u ≠ .slice none 0 0) : ∃ g cap, u = .slice (some ⟨g, 0, none⟩) l.length cap ∧ l.length ≤ cap ∧ Mine w0 g l w := by
  rcases h.shape with ⟨rfl, _⟩ | ⟨g, cap, rfl, hc, _, hb, hg⟩
  · exact absurd rfl hn
  · refine ⟨g, cap, rfl, hc, ?_, fun i => h.frozen i, hb, hg, hf⟩
    rcases h.sl EPt_ok with ⟨e, _⟩ | ⟨g', o', c', e, _, _, hr⟩
    · cases e
    · simp only [Value.slice.injEq, Option.some.injEq, Addr.mk.injEq] at e
      obtain ⟨⟨rfl, rfl, _⟩, _⟩ := e
      exact hr
def st (w : World) (g i : Nat) (p : Pn) : World := ((w.setCell ⟨g, i * 3, none⟩ (.int .i64 p.1)).setCell ⟨g, i * 3 + 1, none⟩ (.int .i64 p.2.1)).setCell ⟨g, i * 3 + 2, none⟩ (.int .i64 p.2.2)
theorem row_cell {o j : Nat} (h : Row EPt w g o l) (hj : j < l.length * 3) : w.cell? ⟨g, o + j, none⟩ = (flat EPt l)[j]? := by
  have hlen := flat_len EPt_ok l
  have : j < (flat EPt l).length := by rw [hlen]; exact hj
  rw [List.getElem?_eq_getElem this]
  exact h j _ (List.getElem?_eq_getElem this)
theorem flat_set (p : Pn) : ∀ (l : List Pn) (i : Nat), flat EPt (l.set i p) = if i < l.length then (((flat EPt l).set (i * 3) (.int .i64 p.1)).set (i * 3 + 1) (.int .i64 p.2.1)).set (i * 3 + 2) (.int .i64 p.2.2) else flat EPt l
  | [], i => by simp [flat]
  | q :: l, 0 => by simp [flat, EPt, pc]
  | q :: l, i + 1 => by
    have ih := flat_set p l i
    have e : flat EPt (q :: l) = .int .i64 q.1 :: .int .i64 q.2.1 :: .int .i64 q.2.2 :: flat EPt l := rfl
    have e' : flat EPt (q :: l.set i p) = .int .i64 q.1 :: .int .i64 q.2.1 :: .int .i64 q.2.2 :: flat EPt (l.set i p) := rfl
    rw [List.set_cons_succ, e', e, ih]
    by_cases h : i < l.length
    · rw [if_pos h, if_pos (by simpa using h), show (i + 1) * 3 = i * 3 + 1 + 1 + 1 by omega]
      simp only [List.set_cons_succ]
    · rw [if_neg h, if_neg (by simpa using h)]
theorem Row.st {i : Nat} (h : Row EPt w g 0 l) (hi : i < l.length) (p : Pn) : Row EPt (HullE.st w g i p) g 0 (l.set i p) := by
  intro j u hu
  rw [flat_set, if_pos hi] at hu
  have hlen := flat_len EPt_ok l
  have hj : j < l.length * 3 := by
    have := (List.getElem?_eq_some_iff.1 hu).1
    simp only [List.length_set, hlen] at this
    exact this
  have hc := row_cell h hj
  rw [Nat.zero_add] at hc ⊢
  unfold HullE.st
  have hex : ∀ (W : World) (a : Addr) (v : Value) (b : Addr), W.cell? b ≠ none → (W.setCell a v).cell? b ≠ none := fun W a v b hb => by
    by_cases e : a = b
    · subst e
      cases hx : W.cell? a with
      | none => exact absurd hx hb
      | some x => rw [World.cell?_setCell_same W a v hx]; simp
    · rw [World.cell?_setCell_other W a b v (fun h => e h)]; exact hb
  have h0 : w.cell? ⟨g, j, none⟩ ≠ none := by rw [hc, List.getElem?_eq_getElem (by rw [hlen]; exact hj)]; simp
  have step : ∀ (W : World) (k : Nat) (v : Value) (L : List Value), W.cell? ⟨g, j, none⟩ = L[j]? → j < L.length → (W.setCell ⟨g, k, none⟩ v).cell? ⟨g, j, none⟩ = (L.set k v)[j]? := fun W k v L hW hL => by
    by_cases e : k = j
    · subst e
      rw [World.cell?_setCell_same W _ v (hW.trans (List.getElem?_eq_getElem hL)), List.getElem?_set_self hL]
    · rw [World.cell?_setCell_other W _ _ v (by simp [e]), List.getElem?_set_ne e, hW]
  have hL : j < (flat EPt l).length := by rw [hlen]; exact hj
  rw [step _ _ _ _ (step _ _ _ _ (step _ _ _ _ hc hL) (by simpa using hL)) (by simpa using hL)]
  exact hu
theorem Mine.st (h : Mine w0 g l w) {i : Nat} (hi : i < l.length) (p : Pn) : Mine w0 g (l.set i p) (HullE.st w g i p) := by
  refine ⟨Row.st h.row hi p, fun j => ?_, h.new, ?_, ?_⟩
  · unfold HullE.st; rw [World.frozen?_setCell, World.frozen?_setCell, World.frozen?_setCell]; exact h.froz j
  · unfold HullE.st; simp [h.lt]
  · unfold HullE.st; exact ((h.fr.setCell (fun hlt => absurd h.new (by show ¬ _ ≤ g; exact Nat.not_le.2 hlt)) _).setCell (fun hlt => absurd h.new (by show ¬ _ ≤ g; exact Nat.not_le.2 hlt)) _).setCell (fun hlt => absurd h.new (by show ¬ _ ≤ g; exact Nat.not_le.2 hlt)) _
end
end Go.Proofs.Ytalbaopfdejooaa.HullE
