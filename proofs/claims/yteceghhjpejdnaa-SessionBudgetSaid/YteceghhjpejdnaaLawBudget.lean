/- The law SessionBudget: for every input the call returns true and leaves its arguments as they were. -/
import Derived.Test.YteceghhjpejdnaaSessK
import Derived.Test.YteceghhjpejdnaaRows
import Derived.Carry
import Derived.ProofKit
namespace Go.Proofs.Yteceghhjpejdnaa.sessionBudget
open Go.ChangeShapes Go.WideShapes Go.ChangeAt Go.RowKit Go.Deep Base
set_option linter.unusedVariables false

theorem own : ownKnob Try.prog.godebug = none := by kernel_rfl
theorem laidOut : laidOutB Try.prog = true := by kernel_rfl

set_option maxRecDepth 100000 in
theorem lifted (os : Os) (started : os.Started) (H : Type) (enc : TypeId × Value → H) :
    ReturnsInHanded {} Try.checked os 3 .any (Rows.sessionBudgetSpec.pre6 enc Try.prog Try.f3 Rows.sessionBudgetRow.domain false) (Rows.sessionBudgetSpec.post enc Try.prog Try.f3 false true false false) := by
  refine returnsInHanded_of_change (C := Try.checked) own started (by kernel_rfl) Try.func3
    (ChangeSpec.witness6 (enc := enc) (C := Try.checked) false ⟨#[], #[.int .u8 0, .agg #[.int .i64 0, .int .i64 0, .int .i64 0, .int .i64 0, .int .i64 0, .int .i64 0, .int .i64 0, .int .i64 0, .int .i64 0, .int .i64 0]], []⟩ 8 (by kernel_rfl) (by kernel_rfl) (by kernel_rfl) (by kernel_rfl)) ?_
  intro W base args ds gs before hval0 hW hcnd _
  have hval : ∀ (j : Nat) t v, Try.f3.params[j]? = some t → args[j]? = some v → Value.okWide Try.prog W .any base t v := hval0
  have hW' := hW
  obtain ⟨p, q, hA0, hV, rfl, hfz, hnd⟩ := hW
  have hA : DataW.TrodAll enc Try.prog W 0 (fun _ => true) true Try.f3.params.toList args.toList ds p := hA0
  rw [Try.params3] at hA hval
  obtain ⟨v0, vs0, d0, ds0, p0, q0, hargs, rfl, rfl, h0, r0⟩ := trodAll_cons hA
  obtain ⟨v1, vs1, d1, ds1, p1, q1, rfl, rfl, rfl, h1, r1⟩ := trodAll_cons r0
  obtain ⟨rfl, rfl, rfl⟩ := trodAll_nil r1
  obtain rfl : args = #[v0, v1] := by cases args; simp_all
  obtain ⟨rfl, rfl⟩ := trodVars_none hV
  have k0 := h0
  have lt0 : ∀ x ∈ p0, x.block < W.heap.size := by obtain ⟨m, hm⟩ := k0; exact DataW.trod_lt m _ _ _ hm
  obtain ⟨b0, rfl, rfl, rfl, wb0⟩ := open_int Try.underlying5 (hval 0 5 v0 rfl rfl) h0
  have k1 := h1
  have lt1 : ∀ x ∈ p1, x.block < W.heap.size := by obtain ⟨m, hm⟩ := k1; exact DataW.trod_lt m _ _ _ hm
  obtain ⟨w1x0, rfl, l1x0⟩ := Leaf.open_flat (l := [.i .i64, .i .i64, .i .i64, .i .i64, .i .i64, .i .i64, .i .i64, .i .i64, .i .i64, .i .i64]) 9 (by kernel_rfl) (Or.inl ⟨_, Try.underlying27⟩) (hval 1 27 v1 rfl rfl) h1
  obtain ⟨_, w1x1, rfl, ⟨qa, rfl, qa0, qa1⟩, l1x1⟩ := Leaf.Leafs.cons l1x0
  obtain ⟨_, w1x2, rfl, ⟨qb, rfl, qb0, qb1⟩, l1x2⟩ := Leaf.Leafs.cons l1x1
  obtain ⟨_, w1x3, rfl, ⟨qc, rfl, qc0, qc1⟩, l1x3⟩ := Leaf.Leafs.cons l1x2
  obtain ⟨_, w1x4, rfl, ⟨qd, rfl, qd0, qd1⟩, l1x4⟩ := Leaf.Leafs.cons l1x3
  obtain ⟨_, w1x5, rfl, ⟨qe, rfl, qe0, qe1⟩, l1x5⟩ := Leaf.Leafs.cons l1x4
  obtain ⟨_, w1x6, rfl, ⟨qf, rfl, qf0, qf1⟩, l1x6⟩ := Leaf.Leafs.cons l1x5
  obtain ⟨_, w1x7, rfl, ⟨qg, rfl, qg0, qg1⟩, l1x7⟩ := Leaf.Leafs.cons l1x6
  obtain ⟨_, w1x8, rfl, ⟨qh, rfl, qh0, qh1⟩, l1x8⟩ := Leaf.Leafs.cons l1x7
  obtain ⟨_, w1x9, rfl, ⟨qi, rfl, qi0, qi1⟩, l1x9⟩ := Leaf.Leafs.cons l1x8
  obtain ⟨_, w1x10, rfl, ⟨qj, rfl, qj0, qj1⟩, l1x10⟩ := Leaf.Leafs.cons l1x9
  obtain rfl : w1x10 = [] := l1x10
  clear hA0 hval0
  refine (SessK.budget_any W b0 qa qb qc qd qe qf qg qh qi qj (SessK.wf_u8 wb0).1 (SessK.wf_u8 wb0).2).mono fun e W' ⟨he, hfr⟩ => ?_
  have bel := Fr.below' hfr
  subst he
  exact ⟨_, rfl, _, _, _, [], _, [], hW', trodAll_mk1 (shut_bool Try.underlying4 _), (trodAll_cons_mk (Below.trod laidOut (by kernel_rfl) (of_decide_eq_true (by kernel_rfl)) k0 bel lt0) (trodAll_cons_mk (Below.trod laidOut (by kernel_rfl) (of_decide_eq_true (by kernel_rfl)) k1 bel lt1) trodAll_mk0)), rfl, bel.frame _, fun h => by cases h⟩

theorem over : Rows.sessionBudgetRow.holds Try.pinned (OpenSpec.ofChange Rows.sessionBudgetSpec) :=
  OpenClaim.holds_of_wide 3 Try.f3 rfl rfl rfl rfl rfl rfl rfl ⟨rfl, rfl, rfl, rfl, rfl⟩ rfl rfl rfl rfl rfl (by kernel_rfl) Try.func3 (by kernel_rfl)
    (of_decide_eq_true (by kernel_rfl)) (by unfold Func.isWrapper; first | (rw [if_pos (by decide +kernel)]; kernel_rfl) | (rw [if_neg (by decide +kernel)]; exact ⟨rfl, rfl⟩))
    (fun os started H enc _ => lifted os started H enc)

/-- SessionBudget, of every input. -/
theorem proved : Rows.SessionBudgetSaid := over
end Go.Proofs.Yteceghhjpejdnaa.sessionBudget
