/- Chapter 3: the walks of the orders and of what is good; and of the law KernOrders. -/
import Derived.Test.YtalbaopfdejooaaKernD
import Derived.Deep.RegionHeld3
namespace Go.Proofs.Ytalbaopfdejooaa.KernE
open Go.RowKit Base WideA WideB WideE WideF WideO KernA KernB KernC KernD Quiet
set_option linter.unusedVariables false
set_option linter.unusedSimpArgs false

/-- which of two threes comes first -/
def lex3 (a b c x y z : Int) : Int := orI (cmpI a x) (orI (cmpI b y) (cmpI c z))
/-- a fair interval -/
def fairB (i l h : Int) : Bool := inI i && inC l && inC h && decide (l ≤ h)

theorem lex_paths (a b c x y z : Int) : (a < x ∧ lex3 a b c x y z = -1) ∨ (x < a ∧ lex3 a b c x y z = 1) ∨ (a = x ∧ b < y ∧ lex3 a b c x y z = -1) ∨ (a = x ∧ y < b ∧ lex3 a b c x y z = 1) ∨
    (a = x ∧ b = y ∧ c < z ∧ lex3 a b c x y z = -1) ∨ (a = x ∧ b = y ∧ z < c ∧ lex3 a b c x y z = 1) ∨ (a = x ∧ b = y ∧ c = z ∧ lex3 a b c x y z = 0) := by
  unfold lex3 orI cmpI
  repeat' split
  all_goals omega

set_option maxHeartbeats 4000000 in
theorem less_p (i x y j u v : Int) (w : World) (b : Bool) (h : (b = true ∧ x < u) ∨ (b = false ∧ u < x) ∨ (b = true ∧ x = u ∧ y < v) ∨ (b = false ∧ x = u ∧ v < y) ∨ (b = true ∧ x = u ∧ y = v ∧ i < j) ∨ (b = false ∧ x = u ∧ y = v ∧ j < i)) :
    Calls Try.prog 43 #[.agg #[.int .i64 i, .int .i64 x, .int .i64 y], .agg #[.int .i64 j, .int .i64 u, .int .i64 v]] w fun e w' => e = .returned (.bool b) ∧ Fr Nil w w' := by
  rcases h with ⟨rfl, h⟩ | ⟨rfl, h⟩ | ⟨rfl, rfl, h⟩ | ⟨rfl, rfl, h⟩ | ⟨rfl, rfl, rfl, h⟩ | ⟨rfl, rfl, rfl, h⟩
  all_goals
    have hne := Int.ne_of_lt h
    have hne' := Int.ne_of_gt h
    go_enter Try.func43, Try.ntmps43
    go_wp2_with fail
    exact bodyPost_ret (v := .bool _) (by simp [results, Try.results43, go_sem] <;> omega) rfl ⟨rfl, by (repeat' (with_reducible first | refine Fr.setCell ?_ (fun hlt => absurd hlt (by dsimp only; omega)) _ | refine Fr.alloc ?_ _ | refine Fr.drewN ?_ _ | refine Fr.drew ?_ | exact Fr.refl _ _))⟩

theorem quiet_c3 {S : Nat → Prop} {w : World} {g : Nat} {t : TypeId} {x y z : Value} (h : Bk w g t #[x, y, z]) (hg : ¬ S g) : (∀ p : FrW S w, p.val.cell? ⟨g, 0, none⟩ = some x) ∧ (∀ p : FrW S w, p.val.cell? ⟨g, 1, none⟩ = some y) ∧ (∀ p : FrW S w, p.val.cell? ⟨g, 2, none⟩ = some z) :=
  ⟨fun p => (h.fr p.fr hg).cell 0, fun p => (h.fr p.fr hg).cell 1, fun p => (h.fr p.fr hg).cell 2⟩

set_option maxHeartbeats 4000000 in
theorem or3_any (g : Nat) (t : TypeId) (a b c : Int) (w : World) (h : Bk w g t #[.int .i64 a, .int .i64 b, .int .i64 c]) :
    Calls Try.prog 74 #[.slice (some ⟨g, 0, none⟩) 3 3] w fun e w' => e = .returned (.int .i64 (orI a (orI b c))) ∧ w' = w := by
  obtain ⟨k0, k1, k2, f0, f1, f2⟩ := h.c3
  have key : ∀ r : Int, (a ≠ 0 ∧ r = a) ∨ (a = 0 ∧ b ≠ 0 ∧ r = b) ∨ (a = 0 ∧ b = 0 ∧ r = c) →
      Calls Try.prog 74 #[.slice (some ⟨g, 0, none⟩) 3 3] w fun e w' => e = .returned (.int .i64 r) ∧ w' = w := by
    rintro r (⟨h1, rfl⟩ | ⟨rfl, h1, rfl⟩ | ⟨rfl, rfl, rfl⟩)
    · go_enter Try.func74, Try.ntmps74
      go_wp2_with fail
      refine wp_loop_rounds 4 ?_
      rw [rounds_succ]
      go_wp2_with fail
      exact bodyPost_ret (v := .int .i64 _) (by simp [results, Try.results74, go_sem] <;> omega) rfl ⟨rfl, rfl⟩
    · go_enter Try.func74, Try.ntmps74
      go_wp2_with fail
      refine wp_loop_rounds 4 ?_
      rw [rounds_succ]
      go_wp2_with fail
      rw [rounds_succ]
      go_wp2_with fail
      exact bodyPost_ret (v := .int .i64 _) (by simp [results, Try.results74, go_sem] <;> omega) rfl ⟨rfl, rfl⟩
    · by_cases hc : r = 0
      · subst hc
        go_enter Try.func74, Try.ntmps74
        go_wp2_with fail
        refine wp_loop_rounds 4 ?_
        rw [rounds_succ]
        go_wp2_with fail
        rw [rounds_succ]
        go_wp2_with fail
        rw [rounds_succ]
        go_wp2_with fail
        rw [rounds_succ]
        go_wp2_with fail
        exact bodyPost_ret (v := .int .i64 _) (by simp [results, Try.results74, go_sem] <;> omega) rfl ⟨rfl, rfl⟩
      · go_enter Try.func74, Try.ntmps74
        go_wp2_with fail
        refine wp_loop_rounds 4 ?_
        rw [rounds_succ]
        go_wp2_with fail
        rw [rounds_succ]
        go_wp2_with fail
        rw [rounds_succ]
        go_wp2_with fail
        exact bodyPost_ret (v := .int .i64 _) (by simp [results, Try.results74, go_sem] <;> omega) rfl ⟨rfl, rfl⟩
  refine key _ ?_
  unfold orI
  repeat' split
  all_goals omega

end Go.Proofs.Ytalbaopfdejooaa.KernE
