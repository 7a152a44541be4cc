/- Chapter 6: what a pool is in memory; at, fresh, take. -/
import Derived.Test.YtemofdbepalnkaaSlices
import Derived.Test.YtemofdbepalnkaaTrapG
import Derived.Test.YtemofdbepalnkaaQuiet
import Derived.Test.YtemofdbepalnkaaChecked
import Derived.RegionTactic
import Derived.BigRegion
namespace Go.Proofs.Ytemofdbepalnkaa.PoolA
open Go.RowKit Base Slices Quiet TrapA TrapB TrapG
set_option linter.unusedVariables false
set_option linter.unusedSimpArgs false

/-- a node: what it has, the next one that was given, whether it is taken -/
abbrev Slot := Int × Int × Bool
def ES : El Slot := { ty := 54, sl := 49, size := 3, bytes := 24, cells := fun p => [.int .i64 p.1, .int .i64 p.2.1, .bool p.2.2] }
theorem info_slot : (Try.prog.info? 54).map (fun i => (i.zero, i.size, i.bytes)) = some (some (.agg #[.int .i64 0, .int .i64 0, .bool false]), 3, 24) := by kernel_rfl
theorem ES_ok : ES.Ok Try.prog := by
  obtain ⟨i0, hi, hz0, hz1, hz2⟩ := info_parts info_slot
  refine ⟨Try.underlying49, ⟨i0, _, hi, hz0, hz1, hz2, rfl⟩, by decide, by decide, fun _ => rfl, fun a u hu => ?_⟩
  simp [ES] at hu
  rcases hu with rfl | rfl | rfl <;> rfl

theorem flat_set (l : List Slot) (p : Slot) : ∀ (i : Nat), i < l.length → flat ES (l.set i p) = (((flat ES l).set (i * 3) (.int .i64 p.1)).set (i * 3 + 1) (.int .i64 p.2.1)).set (i * 3 + 2) (.bool p.2.2) := by
  induction l with
  | nil => intro i h; simp at h
  | cons a l ih =>
    intro i h
    cases i with
    | zero => simp [flat, ES]
    | succ i =>
      have e := ih i (by simpa using h)
      have e1 : (i + 1) * 3 = i * 3 + 1 + 1 + 1 := by omega
      unfold flat at e ⊢
      rw [List.set_cons_succ, List.flatMap_cons, List.flatMap_cons, e, e1]
      simp [ES]
theorem flat_set1 (l : List Slot) (n : Int) : ∀ (i : Nat) (p : Slot), l[i]? = some p → flat ES (l.set i (n, p.2)) = (flat ES l).set (i * 3) (.int .i64 n) := by
  induction l with
  | nil => intro i p h; simp at h
  | cons a l ih =>
    intro i p h
    cases i with
    | zero => simp at h; subst h; simp [flat, ES]
    | succ i =>
      have e := ih i p (by simpa using h)
      have e1 : (i + 1) * 3 = i * 3 + 1 + 1 + 1 := by omega
      unfold flat at e ⊢
      rw [List.set_cons_succ, List.flatMap_cons, List.flatMap_cons, e, e1]
      simp [ES]

/-- a node rewritten whole, in place -/
theorem own_set {w : World} {b c : Nat} {l : List Slot} (h : Own ES w 0 (.slice (some ⟨b, 0, none⟩) l.length c) l) (p : Slot) (i : Nat) (hi : i < l.length) :
    Own ES (((w.setCell ⟨b, i * 3, none⟩ (.int .i64 p.1)).setCell ⟨b, i * 3 + 1, none⟩ (.int .i64 p.2.1)).setCell ⟨b, i * 3 + 2, none⟩ (.bool p.2.2)) 0 (.slice (some ⟨b, 0, none⟩) l.length c) (l.set i p) := by
  have h1 := (World.ownsRow.stored h (i * 3) (.int .i64 p.1)).1
  have h2 := (World.ownsRow.stored h1 (i * 3 + 1) (.int .i64 p.2.1)).1
  have h3 := (World.ownsRow.stored h2 (i * 3 + 2) (.bool p.2.2)).1
  unfold Own
  rw [flat_set l p i hi, List.length_set]
  exact h3
theorem own_set1 {w : World} {b c : Nat} {l : List Slot} (h : Own ES w 0 (.slice (some ⟨b, 0, none⟩) l.length c) l) (n : Int) {i : Nat} {p : Slot} (hp : l[i]? = some p) :
    Own ES (w.setCell ⟨b, i * 3, none⟩ (.int .i64 n)) 0 (.slice (some ⟨b, 0, none⟩) l.length c) (l.set i (n, p.2)) := by
  have h1 := (World.ownsRow.stored h (i * 3) (.int .i64 n)).1
  unfold Own
  rw [flat_set1 l n i p hp, List.length_set]
  exact h1

/-- A pool: its block, the slice in it, its nodes, the last one that was given, how many are taken, how many may be. -/
def Pl (w : World) (g : Nat) (v : Value) (l : List Slot) (free n : Int) (most : Nat) : Prop := Bk w g 51 #[v, .int .i64 free, .int .i64 n, .int .i64 most] ∧ Own ES w 0 v l
/-- the blocks of a pool -/
def Foot (g : Nat) (v : Value) : Nat → Prop := fun k => k = g ∨ v.ownBlock = some k
def Moved (w : World) (v v' : Value) : Prop := ∀ k, v'.ownBlock = some k → v.ownBlock = some k ∨ w.heap.size ≤ k

section
variable {w w' : World} {g : Nat} {v : Value} {l : List Slot} {free n : Int} {most : Nat}
theorem Pl.fr {S : Nat → Prop} (h : Pl w g v l free n most) (hf : Fr S w w') (hs : ∀ k, Foot g v k → ¬ S k) : Pl w' g v l free n most :=
  ⟨h.1.fr hf (hs g (Or.inl rfl)), h.2.fr hf fun k hk => hs k (Or.inr hk)⟩
theorem Pl.nil (h : Pl w g v l free n most) (hf : Fr Nil w w') : Pl w' g v l free n most := h.fr hf fun _ _ s => s
theorem Pl.lt (h : Pl w g v l free n most) : ∀ k, Foot g v k → k < w.heap.size := by
  rintro k (rfl | hk)
  · exact h.1.lt
  · exact (h.2.lt k hk).2
theorem Pl.apart (h : Pl w g v l free n most) {k : Nat} (hk : v.ownBlock = some k) : k ≠ g := by
  rcases h.2.2 with ⟨rfl, _⟩ | ⟨g', cap, cur, rfl, hb, hg, hr⟩
  · cases hk
  · simp [Value.ownBlock] at hk
    subst hk
    exact Bk.apart (t := 54) (t' := 51) hg h.1 (by decide)
/-- a node's cells -/
theorem Pl.slot (h : Pl w g v l free n most) {k : Nat} {p : Slot} (hp : l[k]? = some p) : ∃ b c, v = .slice (some ⟨b, 0, none⟩) l.length c ∧ l.length ≤ c ∧ b ≠ g ∧ b < w.heap.size ∧ k < l.length ∧
    w.cell? ⟨b, k * 3, none⟩ = some (.int .i64 p.1) ∧ w.cell? ⟨b, k * 3 + 1, none⟩ = some (.int .i64 p.2.1) ∧ w.cell? ⟨b, k * 3 + 2, none⟩ = some (.bool p.2.2) ∧ ∀ j, w.frozen? ⟨b, j, none⟩ = false := by
  have hk := (List.getElem?_eq_some_iff.1 hp).1
  rcases h.2.shape with ⟨rfl, rfl⟩ | ⟨b, c, rfl, hc, _, _, hb⟩
  · simp at hp
  · have hcell : ∀ j u, (ES.cells p)[j]? = some u → w.cell? ⟨b, k * 3 + j, none⟩ = some u := fun j u hu => by
      have hf := flat_at ES_ok l k p hp j u hu
      have hj : k * 3 + j < l.length * ES.size := by
        rw [← flat_len ES_ok]; exact (List.getElem?_eq_some_iff.1 hf).1
      rw [World.ownsRow.cellAt h.2 (k * 3 + j) hj]
      exact hf
    exact ⟨b, c, rfl, hc, h.apart rfl, hb, hk, hcell 0 _ rfl, hcell 1 _ rfl, hcell 2 _ rfl, fun j => h.2.frozen j⟩
end

section
variable (w : World)
set_option maxHeartbeats 1000000 in
theorem New_ok (most : Nat) (h1 : 1 ≤ most) (h2 : most ≤ 1048576) : Calls Try.prog 6 #[.int .i64 (most : Int)] w fun e w' => e = .returned (.tuple #[.pointer (some ⟨w.heap.size, 0, none⟩), .int .i64 0]) ∧ Fr Nil w w' ∧ Pl w' w.heap.size (.slice none 0 0) [] 0 0 most := by
  have h1' : (1 : Int) ≤ most := by omega
  have h2' : (most : Int) ≤ 1048576 := by omega
  go_enter Try.func6, Try.ntmps6
  go_wp2_with fail
  exact bodyPost_ret (v := .tuple #[.pointer (some ⟨w.heap.size, 0, none⟩), .int .i64 0]) (by simp [results, Try.results6, go_sem]) rfl ⟨rfl, by (repeat' (with_reducible first | refine Fr.setCell ?_ (fun hlt => absurd hlt (by dsimp only; omega)) _ | refine Fr.alloc ?_ _ | refine Fr.drewN ?_ _ | refine Fr.drew ?_ | exact Fr.refl _ _)), Bk.new _ _ _, Own.nil _ _⟩

set_option maxHeartbeats 2000000 in
theorem at_ok {g : Nat} {v : Value} {l : List Slot} {free n : Int} {most k : Nat} {p : Slot} (h : Pl w g v l free n most) (hp : l[k]? = some p) (ht : p.2.2 = true) (hl : l.length ≤ 1048576) :
    ∃ b c, v = .slice (some ⟨b, 0, none⟩) l.length c ∧ Calls Try.prog 22 #[.pointer (some ⟨g, 0, none⟩), .int .i64 ((k : Int) + 1)] w fun e w' => e = .returned (.pointer (some ⟨b, k * 3, none⟩)) ∧ w' = w := by
  obtain ⟨b, c, rfl, hc, _, hb, hk, d0, d1, d2, fz⟩ := h.slot hp
  rw [ht] at d2
  obtain ⟨c0, c1, c2, c3, _, _, _, _⟩ := h.1.c4
  refine ⟨b, c, rfl, ?_⟩
  have hk0 : (0 : Int) ≤ k := by omega
  have hk1 : (k : Int) + 1 ≤ l.length := by omega
  have hk2 : (k : Int) < l.length := by omega
  have hk3 : (k : Int) ≤ 1048576 := by omega
  have hk4 : (1 : Int) ≤ (k : Int) + 1 := by omega
  clear h hp ht fz hc hl
  go_enter Try.func22, Try.ntmps22
  go_wp2_with fail
  go_ret
  exact ⟨rfl, rfl⟩
set_option maxHeartbeats 2000000 in
theorem at_bad {g : Nat} {v : Value} {l : List Slot} {free n : Int} {most : Nat} {i : Int} (h : Pl w g v l free n most) (hi : ∀ (k : Nat) (p : Slot), i = (k : Int) + 1 → l[k]? = some p → p.2.2 = false) (hl : l.length ≤ 1048576) :
    Calls Try.prog 22 #[.pointer (some ⟨g, 0, none⟩), .int .i64 i] w fun e w' => e = .panicked [fault i 6] ∧ w = w' := by
  obtain ⟨c0, c1, c2, c3, _, _, _, _⟩ := h.1.c4
  have H := Lib.hid (fun W => Throw_bad i 6 (by decide) W)
  obtain ⟨A, c, hv⟩ := (h.2.sl ES_ok).shape
  by_cases h1 : i < 1
  · subst hv
    clear h hi
    go_enter Try.func22, Try.ntmps22
    go_wp2_with fail
    refine (H.out _).mono ?_
    rintro e w1 ⟨rfl, rfl⟩
    exact ⟨rfl, rfl, rfl⟩
  · have h1' : 1 ≤ i := by omega
    by_cases h2 : (l.length : Int) < i
    · subst hv
      clear h hi h1
      go_enter Try.func22, Try.ntmps22
      go_wp2_with fail
      refine (H.out _).mono ?_
      rintro e w1 ⟨rfl, rfl⟩
      exact ⟨rfl, rfl, rfl⟩
    · obtain ⟨k, hk⟩ : ∃ k : Nat, i = (k : Int) + 1 := ⟨(i - 1).toNat, by omega⟩
      obtain ⟨p, hp⟩ : ∃ p, l[k]? = some p := ⟨l[k]'(by omega), List.getElem?_eq_getElem _⟩
      have ht := hi k p hk hp
      subst hk
      obtain ⟨b, c', hve, hc, _, hb, hkl, d0, d1, d2, fz⟩ := h.slot hp
      rw [ht] at d2
      subst hve
      have hk0 : (0 : Int) ≤ k := by omega
      have hk1 : (k : Int) + 1 ≤ l.length := by omega
      have hk2 : (k : Int) < l.length := by omega
      have hk3 : (k : Int) ≤ 1048576 := by omega
      clear h hi hp ht fz hc hl h1 h2 hv
      go_enter Try.func22, Try.ntmps22
      go_wp2_with fail
      refine (H.out _).mono ?_
      rintro e w1 ⟨rfl, rfl⟩
      exact ⟨rfl, rfl, rfl⟩
end
end Go.Proofs.Ytemofdbepalnkaa.PoolA
