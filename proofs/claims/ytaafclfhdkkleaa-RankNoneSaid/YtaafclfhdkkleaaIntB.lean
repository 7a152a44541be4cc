/- Ints in memory (an int n is kept as the pair (n, 0), of which one cell lies in memory); the walk of cmp.Less. -/
import Derived.Test.YtaafclfhdkkleaaSortA
import Derived.Test.YtaafclfhdkkleaaMem
import Derived.Test.YtaafclfhdkkleaaQuiet
import Derived.Test.YtaafclfhdkkleaaChecked
import Derived.WalkSpells
import Derived.WalkLawsBesides
import Derived.Lib.Hide
import Derived.Laws.AppendOwnNone
import Derived.Laws.OwnMore
namespace Go.Proofs.Ytaafclfhdkkleaa.IntB
open Go.RowKit Base SortA
set_option linter.unusedVariables false
set_option linter.unusedSimpArgs false

theorem Try.info_int : (Try.prog.info? 3).map (fun i => (i.zero, i.size, i.bytes)) = some (some (.int .i64 0), 1, 8) := by kernel_rfl

def pc (p : Pr) : List Value := [.int .i64 p.1]
def flat (l : List Pr) : List Value := l.flatMap pc
/-- pairs in a row -/
def Row (w : World) (g o : Nat) (l : List Pr) : Prop := ∀ (i : Nat) (p : Pr), l[i]? = some p → w.cell? ⟨g, o + i, none⟩ = some (.int .i64 p.1) ∧ True
/-- a slice of pairs -/
def Sl (w : World) (v : Value) (l : List Pr) : Prop := (v = .slice none 0 0 ∧ l = []) ∨ ∃ g o cap, v = .slice (some ⟨g, o, none⟩) l.length cap ∧ l.length ≤ cap ∧ g < w.heap.size ∧ Row w g o l
/-- pairs that come in, wherever they lie -/
def Come (w : World) (v : Value) (l : List Pr) : Prop := (v = .slice none 0 0 ∧ l = []) ∨ ∃ a cap, v = .slice (some a) l.length cap ∧ l.length ≤ cap ∧ ∀ (j : Nat) (u : Value), (flat l)[j]? = some u → w.cell? (a.add j) = some u

theorem flat_len (l : List Pr) : (flat l).length = l.length := by
  induction l with
  | nil => rfl
  | cons s r ih => simp [flat, pc] at ih ⊢; omega
theorem flat_append (a b : List Pr) : flat (a ++ b) = flat a ++ flat b := by simp [flat]
theorem flat_one (l : List Pr) : ∀ u ∈ flat l, u.oneCell' = true := by
  intro u hu
  simp only [flat, List.mem_flatMap, pc] at hu
  obtain ⟨p, _, hp⟩ := hu
  simp at hp
  rcases hp with rfl | rfl <;> rfl
theorem flat_at {l : List Pr} {i : Nat} {p : Pr} (h : l[i]? = some p) : (flat l)[i]? = some (.int .i64 p.1) := by
  have e : flat l = l.map fun p => .int .i64 p.1 := by
    clear h
    induction l with
    | nil => rfl
    | cons x r ih => simp only [flat, List.flatMap_cons, pc] at ih ⊢; rw [ih]; rfl
  rw [e, List.getElem?_map, h]
  rfl
theorem Row.fr {w w' : World} {g o : Nat} {l : List Pr} {S : Nat → Prop} (h : Row w g o l) (hfr : Fr S w w') (ha : g < w.heap.size) (hs : ¬ S g) : Row w' g o l := fun i s his => by
  obtain ⟨h0, h1⟩ := h i s his
  exact ⟨(hfr.cell (p := ⟨g, _, none⟩) ha hs).trans h0, trivial⟩
theorem Sl.fr {w w' : World} {v : Value} {l : List Pr} (h : Sl w v l) (hfr : Fr Nil w w') : Sl w' v l := by
  rcases h with h | ⟨g, o, cap, rfl, hc, ha, hr⟩
  · exact Or.inl h
  · exact Or.inr ⟨g, o, cap, rfl, hc, Nat.lt_of_lt_of_le ha hfr.size, hr.fr hfr ha id⟩
theorem Come.fr {w w' : World} {v : Value} {l : List Pr} (h : Come w v l) (hfr : Fr Nil w w') : Come w' v l := by
  rcases h with h | ⟨a, cap, rfl, hc, hr⟩
  · exact Or.inl h
  · exact Or.inr ⟨a, cap, rfl, hc, fun j u hu => (hfr.cell (p := a.add j) (World.block_lt_of_cell? w _ (hr j u hu)) id).trans (hr j u hu)⟩
theorem Row.flat {w : World} {g o : Nat} {l : List Pr} (h : Row w g o l) : ∀ (j : Nat) (u : Value), (IntB.flat l)[j]? = some u → w.cell? ((⟨g, o, none⟩ : Addr).add j) = some u := by
  intro j u hu
  have hj : j < l.length := by have := (List.getElem?_eq_some_iff.1 hu).1; rw [flat_len] at this; exact this
  obtain ⟨p, hp⟩ : ∃ p, l[j]? = some p := ⟨l[j], List.getElem?_eq_getElem _⟩
  obtain ⟨h0, _⟩ := h _ p hp
  have hadd : (⟨g, o, none⟩ : Addr).add j = ⟨g, o + j, none⟩ := by unfold Addr.add; split <;> simp_all
  rw [hadd]
  rw [flat_at hp] at hu
  cases hu
  exact h0
theorem Row.of_flat {w : World} {g o : Nat} {l : List Pr} (h : ∀ (j : Nat), j < l.length → w.cell? ⟨g, o + j, none⟩ = (IntB.flat l)[j]?) : Row w g o l := fun i p hp => by
  have hi : i < l.length := (List.getElem?_eq_some_iff.1 hp).1
  exact ⟨(h i hi).trans (flat_at hp), trivial⟩
theorem Row.take {w : World} {g o : Nat} {l : List Pr} (h : Row w g o l) (k : Nat) : Row w g o (l.take k) := fun i p hp => by
  rw [List.getElem?_take] at hp
  split at hp
  · exact h i p hp
  · cases hp
theorem Row.drop {w : World} {g o : Nat} {l : List Pr} (h : Row w g o l) (k : Nat) : Row w g (o + k) (l.drop k) := fun i p hp => by
  rw [List.getElem?_drop] at hp
  have := h _ p hp
  rw [show o + k + i = o + (k + i) by omega]
  exact this

/-- a row of the call's own is a slice -/
theorem Sl.of_own {w : World} {base n : Nat} {v : Value} {l : List Pr} {e : TypeId} (h : w.ownsRow base e 1 v n (IntB.flat l)) (hn : n = l.length) : Sl w v l := by
  subst hn
  rcases h.2 with ⟨rfl, h0⟩ | ⟨g, cap, cur, rfl, hb, hg, hnc, hm, hcs, ht⟩
  · exact Or.inl ⟨rfl, List.length_eq_zero_iff.1 h0⟩
  · exact Or.inr ⟨g, 0, cap, rfl, hnc, lt_of_block hg, Row.of_flat fun j hj => by rw [Nat.zero_add]; exact h.cellAt j (by omega)⟩

theorem isNaN_any (a : Int) (w : World) : Calls Try.prog 36 #[.int .i64 a] w fun e w' => e = .returned (.bool false) ∧ Fr Nil w w' := by
  go_enter Try.func36, Try.ntmps36
  go_wp2_with fail
  exact bodyPost_ret (v := .bool false) (by simp [results, Try.results36, go_sem]) rfl ⟨rfl, by (repeat' (with_reducible first | refine Fr.setCell ?_ (fun hlt => absurd hlt (by dsimp only; omega)) _ | refine Fr.alloc ?_ _ | refine Fr.drewN ?_ _ | refine Fr.drew ?_ | exact Fr.refl _ _))⟩
theorem less_any (a b : Pr) (w : World) : Calls Try.prog 30 #[.int .i64 a.1, .int .i64 b.1] w fun e w' => e = .returned (.bool (decide (a.1 < b.1))) ∧ Fr Nil w w' := by
  obtain ⟨a1, a2⟩ := a
  obtain ⟨b1, b2⟩ := b
  have K := Lib.hid (isNaN_any a1 w)
  dsimp only
  go_enter Try.func30, Try.ntmps30
  go_wp2_with fail
  refine K.out.mono ?_
  rintro e w1 ⟨rfl, hf1⟩
  go_wp2_with fail
  exact bodyPost_ret (v := .bool (decide (a1 < b1))) (by simp [results, Try.results30, go_sem]) rfl ⟨rfl, hf1⟩
end Go.Proofs.Ytaafclfhdkkleaa.IntB
