/- Chapter 7: pairs in memory; the walks of Less, few. -/
import Derived.Test.YtokgeegbeagblaaSortA
import Derived.Test.YtokgeegbeagblaaMem
import Derived.Test.YtokgeegbeagblaaQuiet
import Derived.Test.YtokgeegbeagblaaChecked
import Derived.WalkSpells
import Derived.WalkLawsBesides
import Derived.Lib.Hide
import Derived.Laws.AppendOwnNone
import Derived.Laws.OwnMore
namespace Go.Proofs.Ytokgeegbeagblaa.SortB
open Go.RowKit Base SortA
set_option linter.unusedVariables false
set_option linter.unusedSimpArgs false

theorem Try.info_pair : (Try.prog.info? 28).map (fun i => (i.zero, i.size, i.bytes)) = some (some (.agg #[.int .i64 0, .int .i64 0]), 2, 16) := by kernel_rfl

def pc (p : Pr) : List Value := [.int .i64 p.1, .int .i64 p.2]
def flat (l : List Pr) : List Value := l.flatMap pc
/-- pairs in a row -/
def Row (w : World) (g o : Nat) (l : List Pr) : Prop := ∀ (i : Nat) (p : Pr), l[i]? = some p → w.cell? ⟨g, o + i * 2, none⟩ = some (.int .i64 p.1) ∧ w.cell? ⟨g, o + i * 2 + 1, none⟩ = some (.int .i64 p.2)
/-- a slice of pairs -/
def Sl (w : World) (v : Value) (l : List Pr) : Prop := (v = .slice none 0 0 ∧ l = []) ∨ ∃ g o cap, v = .slice (some ⟨g, o, none⟩) l.length cap ∧ l.length ≤ cap ∧ g < w.heap.size ∧ Row w g o l
/-- pairs that come in, wherever they lie -/
def Come (w : World) (v : Value) (l : List Pr) : Prop := (v = .slice none 0 0 ∧ l = []) ∨ ∃ a cap, v = .slice (some a) l.length cap ∧ l.length ≤ cap ∧ ∀ (j : Nat) (u : Value), (flat l)[j]? = some u → w.cell? (a.add j) = some u

theorem flat_len (l : List Pr) : (flat l).length = l.length * 2 := by
  induction l with
  | nil => rfl
  | cons s r ih => simp [flat, pc] at ih ⊢; omega
theorem flat_append (a b : List Pr) : flat (a ++ b) = flat a ++ flat b := by simp [flat]
theorem flat_one (l : List Pr) : ∀ u ∈ flat l, u.oneCell' = true := by
  intro u hu
  simp only [flat, List.mem_flatMap, pc] at hu
  obtain ⟨p, _, hp⟩ := hu
  simp at hp
  rcases hp with rfl | rfl <;> rfl
theorem flat_at {l : List Pr} {i : Nat} {p : Pr} (h : l[i]? = some p) (j : Nat) (hj : j < 2) : (flat l)[i * 2 + j]? = (pc p)[j]? := by
  induction l generalizing i with
  | nil => simp at h
  | cons x r ih =>
    cases i with
    | zero =>
      simp at h
      subst h
      simp only [flat, List.flatMap_cons]
      rw [List.getElem?_append_left (by simp [pc]; omega)]
      simp
    | succ i =>
      have h' : r[i]? = some p := by simpa using h
      have := ih h'
      simp only [flat, List.flatMap_cons] at this ⊢
      rw [List.getElem?_append_right (by simp [pc]; omega)]
      rw [← this]
      congr 1
      simp [pc]; omega

theorem Row.fr {w w' : World} {g o : Nat} {l : List Pr} {S : Nat → Prop} (h : Row w g o l) (hfr : Fr S w w') (ha : g < w.heap.size) (hs : ¬ S g) : Row w' g o l := fun i s his => by
  obtain ⟨h0, h1⟩ := h i s his
  exact ⟨(hfr.cell (p := ⟨g, _, none⟩) ha hs).trans h0, (hfr.cell (p := ⟨g, _, none⟩) ha hs).trans h1⟩
theorem Sl.fr {w w' : World} {v : Value} {l : List Pr} (h : Sl w v l) (hfr : Fr Nil w w') : Sl w' v l := by
  rcases h with h | ⟨g, o, cap, rfl, hc, ha, hr⟩
  · exact Or.inl h
  · exact Or.inr ⟨g, o, cap, rfl, hc, Nat.lt_of_lt_of_le ha hfr.size, hr.fr hfr ha id⟩
theorem Come.fr {w w' : World} {v : Value} {l : List Pr} (h : Come w v l) (hfr : Fr Nil w w') : Come w' v l := by
  rcases h with h | ⟨a, cap, rfl, hc, hr⟩
  · exact Or.inl h
  · exact Or.inr ⟨a, cap, rfl, hc, fun j u hu => (hfr.cell (p := a.add j) (World.block_lt_of_cell? w _ (hr j u hu)) id).trans (hr j u hu)⟩
theorem Row.flat {w : World} {g o : Nat} {l : List Pr} (h : Row w g o l) : ∀ (j : Nat) (u : Value), (SortB.flat l)[j]? = some u → w.cell? ((⟨g, o, none⟩ : Addr).add j) = some u := by
  intro j u hu
  have hj : j < l.length * 2 := by have := (List.getElem?_eq_some_iff.1 hu).1; rw [flat_len] at this; exact this
  obtain ⟨p, hp⟩ : ∃ p, l[j / 2]? = some p := ⟨l[j / 2]'(by omega), List.getElem?_eq_getElem _⟩
  obtain ⟨h0, h1⟩ := h _ p hp
  have hadd : (⟨g, o, none⟩ : Addr).add j = ⟨g, o + j, none⟩ := by unfold Addr.add; split <;> simp_all
  rw [hadd]
  have hr : j % 2 = 0 ∨ j % 2 = 1 := by omega
  rcases hr with hr | hr
  · have e : j = j / 2 * 2 + 0 := by omega
    rw [e, flat_at hp 0 (by omega)] at hu
    simp [pc] at hu
    rw [← hu, e, Nat.add_zero]
    exact h0
  · have e : j = j / 2 * 2 + 1 := by omega
    rw [e, flat_at hp 1 (by omega)] at hu
    simp [pc] at hu
    rw [← hu, e]
    rw [← Nat.add_assoc]
    exact h1
theorem Row.of_flat {w : World} {g o : Nat} {l : List Pr} (h : ∀ (j : Nat), j < l.length * 2 → w.cell? ⟨g, o + j, none⟩ = (SortB.flat l)[j]?) : Row w g o l := fun i p hp => by
  have hi : i < l.length := (List.getElem?_eq_some_iff.1 hp).1
  exact ⟨(h (i * 2 + 0) (by omega)).trans (flat_at hp 0 (by omega)), by rw [Nat.add_assoc]; exact (h (i * 2 + 1) (by omega)).trans (flat_at hp 1 (by omega))⟩
theorem Row.take {w : World} {g o : Nat} {l : List Pr} (h : Row w g o l) (k : Nat) : Row w g o (l.take k) := fun i p hp => by
  rw [List.getElem?_take] at hp
  split at hp
  · exact h i p hp
  · cases hp
theorem Row.drop {w : World} {g o : Nat} {l : List Pr} (h : Row w g o l) (k : Nat) : Row w g (o + k * 2) (l.drop k) := fun i p hp => by
  rw [List.getElem?_drop] at hp
  have := h _ p hp
  rw [show o + k * 2 + i * 2 = o + (k + i) * 2 by omega]
  exact this

/-- a row of the call's own is a slice -/
theorem Sl.of_own {w : World} {base n : Nat} {v : Value} {l : List Pr} {e : TypeId} (h : w.ownsRow base e 2 v n (SortB.flat l)) (hn : n = l.length) : Sl w v l := by
  subst hn
  rcases h.2 with ⟨rfl, h0⟩ | ⟨g, cap, cur, rfl, hb, hg, hnc, hm, hcs, ht⟩
  · exact Or.inl ⟨rfl, List.length_eq_zero_iff.1 h0⟩
  · exact Or.inr ⟨g, 0, cap, rfl, hnc, lt_of_block hg, Row.of_flat fun j hj => by rw [Nat.zero_add]; exact h.cellAt j hj⟩

theorem less_any (a b : Pr) (w : World) : Calls Try.prog 14 #[.agg #[.int .i64 a.1, .int .i64 a.2], .agg #[.int .i64 b.1, .int .i64 b.2]] w fun e w' => e = .returned (.bool (decide (a.1 < b.1))) ∧ Fr Nil w w' := by
  obtain ⟨a1, a2⟩ := a
  obtain ⟨b1, b2⟩ := b
  go_enter Try.func14, Try.ntmps14
  go_wp2_with fail
  try go_quiet (fail)
  try go_wp2_with fail
  exact bodyPost_ret (v := .bool (decide (a1 < b1))) (by simp [results, Try.results14, go_sem]) rfl ⟨rfl, by (repeat' (with_reducible first | refine Fr.setCell ?_ (fun hlt => absurd hlt (by dsimp only; omega)) _ | refine Fr.alloc ?_ _ | refine Fr.drewN ?_ _ | refine Fr.drew ?_ | exact Fr.refl _ _))⟩

end Go.Proofs.Ytokgeegbeagblaa.SortB
