/- Chapter 29: requests as values; the walks of good, fields. -/
import Derived.Test.YteceghhjpejdnaaVintD
import Derived.BigQuiet
import Derived.RegionTactic
namespace Go.Proofs.Yteceghhjpejdnaa.CodecA
open Go.RowKit Base Slices VintA VintB VintC VintD Quiet
set_option linter.unusedVariables false
set_option linter.unusedSimpArgs false

/-- the answer is true just if P -/
def Tells (P : Prop) (e : Ending) : Prop := ∃ b, e = .returned (.bool b) ∧ (b = true ↔ P)
theorem Tells.yes {P : Prop} (h : P) : Tells P (.returned (.bool true)) := ⟨true, rfl, by simp [h]⟩
theorem Tells.no {P : Prop} (h : ¬ P) : Tells P (.returned (.bool false)) := ⟨false, rfl, by simp [h]⟩
/-- a request: eighteen numbers -/
structure Rq where
  k : Int
  ck : Int
  p0 : Int
  p1 : Int
  p2 : Int
  s0 : Int
  s1 : Int
  s2 : Int
  qk : Int
  x1 : Int
  x2 : Int
  y1 : Int
  y2 : Int
  v1 : Int
  v2 : Int
  v3 : Int
  x : Int
  h : Int
def qc (r : Rq) : Array Value := #[.int .i64 r.k, .int .i64 r.ck, .int .i64 r.p0, .int .i64 r.p1, .int .i64 r.p2, .int .i64 r.s0, .int .i64 r.s1, .int .i64 r.s2, .int .i64 r.qk, .int .i64 r.x1, .int .i64 r.x2, .int .i64 r.y1, .int .i64 r.y2, .int .i64 r.v1, .int .i64 r.v2, .int .i64 r.v3, .int .i64 r.x, .int .i64 r.h]
def qv (r : Rq) : Value := .agg (qc r)
def GoodQ (r : Rq) : Prop := (r.k = 1 ∧ 1 ≤ r.ck ∧ r.ck ≤ 4) ∨ (r.k = 2 ∧ 1 ≤ r.qk ∧ r.qk ≤ 7)
/-- where its numbers stand -/
def offs (r : Rq) : List Nat := if r.k = 1 then (if r.ck = 1 then [2, 3, 4] else if r.ck = 3 then [5, 6, 7] else if r.ck = 2 then [2] else [5])
  else if r.qk ≤ 2 then [9, 10, 11, 12] else if r.qk ≤ 4 then [13, 14, 15] else if r.qk = 5 then [16] else [16, 17]
def ptrs (g : Nat) (l : List Nat) : Array Value := (l.map fun o => Value.pointer (some ⟨g, o, none⟩)).toArray

theorem kinds {r : Rq} (h : GoodQ r) : (r.k = 1 ∧ (r.ck = 1 ∨ r.ck = 2 ∨ r.ck = 3 ∨ r.ck = 4)) ∨ (r.k = 2 ∧ (r.qk = 1 ∨ r.qk = 2 ∨ r.qk = 3 ∨ r.qk = 4 ∨ r.qk = 5 ∨ r.qk = 6 ∨ r.qk = 7)) := by
  unfold GoodQ at h
  omega

section
variable (w : World)
theorem good_any (r : Rq) : Calls Try.prog 41 #[qv r] w fun e w' => Tells (GoodQ r) e ∧ Fr Nil w w' := by
  have HB := Lib.hid (Bk.new w 40 (qc r))
  have G0 := Lib.hid ((Fr.refl Nil w).alloc (.cells (qc r) 40))
  have HG := Lib.hid (show GoodQ r ↔ (r.k = 1 ∧ 1 ≤ r.ck ∧ r.ck ≤ 4) ∨ (r.k = 2 ∧ 1 ≤ r.qk ∧ r.qk ≤ 7) from Iff.rfl)
  obtain ⟨k, ck, p0, p1, p2, s0, s1, s2, qk, x1, x2, y1, y2, v1, v2, v3, x, h⟩ := r
  unfold qv qc at *
  dsimp only at *
  by_cases h1 : k = 1
  · subst h1
    by_cases h2 : 1 ≤ ck
    · by_cases h3 : ck ≤ 4
      · go_enter Try.func41, Try.ntmps41
        go_wp2_with fail
        go_ret
        exact ⟨Tells.yes (by rw [HG.out]; simp [h2, h3]), G0.out⟩
      · go_enter Try.func41, Try.ntmps41
        go_wp2_with fail
        go_ret
        exact ⟨Tells.no (by rw [HG.out]; omega), G0.out⟩
    · go_enter Try.func41, Try.ntmps41
      go_wp2_with fail
      go_ret
      exact ⟨Tells.no (by rw [HG.out]; omega), G0.out⟩
  · by_cases h4 : k = 2
    · subst h4
      by_cases h2 : 1 ≤ qk
      · by_cases h3 : qk ≤ 7
        · go_enter Try.func41, Try.ntmps41
          go_wp2_with fail
          go_ret
          exact ⟨Tells.yes (by rw [HG.out]; simp [h2, h3]), G0.out⟩
        · go_enter Try.func41, Try.ntmps41
          go_wp2_with fail
          go_ret
          exact ⟨Tells.no (by rw [HG.out]; omega), G0.out⟩
      · go_enter Try.func41, Try.ntmps41
        go_wp2_with fail
        go_ret
        exact ⟨Tells.no (by rw [HG.out]; omega), G0.out⟩
    · go_enter Try.func41, Try.ntmps41
      go_wp2_with fail
      go_ret
      exact ⟨Tells.no (by rw [HG.out]; omega), G0.out⟩

set_option maxRecDepth 100000 in
set_option maxHeartbeats 4000000 in
theorem fields_any (r : Rq) {g : Nat} (hg : GoodQ r) (hB : Bk w g 40 (qc r)) :
    Calls Try.prog 47 #[.pointer (some ⟨g, 0, none⟩)] w fun e w' => ∃ b, e = .returned (.slice (some ⟨b, 0, none⟩) (offs r).length (offs r).length) ∧ Bk w' b 87 (ptrs g (offs r)) ∧ Fr Nil w w' ∧ w.heap.size ≤ b := by
  have hk := kinds hg
  have c0 : w.cell? ⟨g, 0, none⟩ = some (.int .i64 r.k) := hB.cell 0
  have c1 : w.cell? ⟨g, 1, none⟩ = some (.int .i64 r.ck) := hB.cell 1
  have c8 : w.cell? ⟨g, 8, none⟩ = some (.int .i64 r.qk) := hB.cell 8
  have HO := Lib.hid (show ∀ l, offs r = l → ptrs g (offs r) = ptrs g l from fun l h => by rw [h])
  obtain ⟨k, ck, p0, p1, p2, s0, s1, s2, qk, x1, x2, y1, y2, v1, v2, v3, x, h⟩ := r
  dsimp only at *
  clear hg
  rcases hk with ⟨rfl, rfl | rfl | rfl | rfl⟩ | ⟨rfl, rfl | rfl | rfl | rfl | rfl | rfl | rfl⟩
  · go_enter Try.func47, Try.ntmps47
    go_wp2_with fail
    go_quiet (fail)
    go_wp2_with fail
    go_region
    all_goals
      go_wp2_with fail
      go_ret
      exact ⟨_, rfl, by first | exact Bk.new (w.drewN _) 87 (ptrs g [2, 3, 4]) | exact Bk.new w 87 (ptrs g [2, 3, 4]), by repeat first | exact Fr.refl _ _ | apply Fr.alloc | apply Fr.drewN, Nat.le_refl _⟩
  · go_enter Try.func47, Try.ntmps47
    go_wp2_with fail
    go_quiet (fail)
    go_wp2_with fail
    go_ret
    exact ⟨_, rfl, by first | exact Bk.new (w.drewN _) 87 (ptrs g [2]) | exact Bk.new w 87 (ptrs g [2]), by repeat first | exact Fr.refl _ _ | apply Fr.alloc | apply Fr.drewN, Nat.le_refl _⟩
  · go_enter Try.func47, Try.ntmps47
    go_wp2_with fail
    go_quiet (fail)
    go_wp2_with fail
    go_region
    all_goals
      go_wp2_with fail
      go_ret
      exact ⟨_, rfl, by first | exact Bk.new (w.drewN _) 87 (ptrs g [5, 6, 7]) | exact Bk.new w 87 (ptrs g [5, 6, 7]), by repeat first | exact Fr.refl _ _ | apply Fr.alloc | apply Fr.drewN, Nat.le_refl _⟩
  · go_enter Try.func47, Try.ntmps47
    go_wp2_with fail
    go_quiet (fail)
    go_wp2_with fail
    go_ret
    exact ⟨_, rfl, by first | exact Bk.new (w.drewN _) 87 (ptrs g [5]) | exact Bk.new w 87 (ptrs g [5]), by repeat first | exact Fr.refl _ _ | apply Fr.alloc | apply Fr.drewN, Nat.le_refl _⟩
  · go_enter Try.func47, Try.ntmps47
    go_wp2_with fail
    go_quiet (fail)
    go_wp2_with fail
    go_region
    all_goals
      go_wp2_with fail
      go_ret
      exact ⟨_, rfl, by first | exact Bk.new (w.drewN _) 87 (ptrs g [9, 10, 11, 12]) | exact Bk.new w 87 (ptrs g [9, 10, 11, 12]), by repeat first | exact Fr.refl _ _ | apply Fr.alloc | apply Fr.drewN, Nat.le_refl _⟩
  · go_enter Try.func47, Try.ntmps47
    go_wp2_with fail
    go_quiet (fail)
    go_wp2_with fail
    go_region
    all_goals
      go_wp2_with fail
      go_ret
      exact ⟨_, rfl, by first | exact Bk.new (w.drewN _) 87 (ptrs g [9, 10, 11, 12]) | exact Bk.new w 87 (ptrs g [9, 10, 11, 12]), by repeat first | exact Fr.refl _ _ | apply Fr.alloc | apply Fr.drewN, Nat.le_refl _⟩
  · go_enter Try.func47, Try.ntmps47
    go_wp2_with fail
    go_quiet (fail)
    go_wp2_with fail
    go_region
    all_goals
      go_wp2_with fail
      go_ret
      exact ⟨_, rfl, by first | exact Bk.new (w.drewN _) 87 (ptrs g [13, 14, 15]) | exact Bk.new w 87 (ptrs g [13, 14, 15]), by repeat first | exact Fr.refl _ _ | apply Fr.alloc | apply Fr.drewN, Nat.le_refl _⟩
  · go_enter Try.func47, Try.ntmps47
    go_wp2_with fail
    go_quiet (fail)
    go_wp2_with fail
    go_region
    all_goals
      go_wp2_with fail
      go_ret
      exact ⟨_, rfl, by first | exact Bk.new (w.drewN _) 87 (ptrs g [13, 14, 15]) | exact Bk.new w 87 (ptrs g [13, 14, 15]), by repeat first | exact Fr.refl _ _ | apply Fr.alloc | apply Fr.drewN, Nat.le_refl _⟩
  · go_enter Try.func47, Try.ntmps47
    go_wp2_with fail
    go_quiet (fail)
    go_wp2_with fail
    go_ret
    exact ⟨_, rfl, by first | exact Bk.new (w.drewN _) 87 (ptrs g [16]) | exact Bk.new w 87 (ptrs g [16]), by repeat first | exact Fr.refl _ _ | apply Fr.alloc | apply Fr.drewN, Nat.le_refl _⟩
  · go_enter Try.func47, Try.ntmps47
    go_wp2_with fail
    go_quiet (fail)
    go_wp2_with fail
    go_region
    all_goals
      go_wp2_with fail
      go_ret
      exact ⟨_, rfl, by first | exact Bk.new (w.drewN _) 87 (ptrs g [16, 17]) | exact Bk.new w 87 (ptrs g [16, 17]), by repeat first | exact Fr.refl _ _ | apply Fr.alloc | apply Fr.drewN, Nat.le_refl _⟩
  · go_enter Try.func47, Try.ntmps47
    go_wp2_with fail
    go_quiet (fail)
    go_wp2_with fail
    go_region
    all_goals
      go_wp2_with fail
      go_ret
      exact ⟨_, rfl, by first | exact Bk.new (w.drewN _) 87 (ptrs g [16, 17]) | exact Bk.new w 87 (ptrs g [16, 17]), by repeat first | exact Fr.refl _ _ | apply Fr.alloc | apply Fr.drewN, Nat.le_refl _⟩
end
end Go.Proofs.Yteceghhjpejdnaa.CodecA
