/- The law HullHas: for every input the call returns true and leaves its arguments as they were. -/
import Derived.Test.YtalbaopfdejooaaHullAb
import Derived.Test.YtalbaopfdejooaaRows
import Derived.Carry
import Derived.ProofKit
namespace Go.Proofs.Ytalbaopfdejooaa.hullHas
open Go.ChangeShapes Go.WideShapes Go.ChangeAt Go.RowKit Go.Deep Base
set_option linter.unusedVariables false

theorem own : ownKnob Try.prog.godebug = none := by kernel_rfl
theorem laidOut : laidOutB Try.prog = true := by kernel_rfl

set_option maxRecDepth 100000 in
theorem lifted (os : Os) (started : os.Started) (H : Type) (enc : TypeId × Value → H) :
    ReturnsInHanded {} Try.checked os 5 .any (Rows.hullHasSpec.pre6 enc Try.prog Try.f5 Rows.hullHasRow.domain false) (Rows.hullHasSpec.post enc Try.prog Try.f5 false true false false) := by
  refine returnsInHanded_of_change (C := Try.checked) own started (by kernel_rfl) Try.func5
    (ChangeSpec.witness6 (enc := enc) (C := Try.checked) false ⟨#[], #[.slice none 0 0, .agg #[.int .i64 0, .int .i64 0, .int .i64 0]], []⟩ 8 (by kernel_rfl) (by kernel_rfl) (by kernel_rfl) (by kernel_rfl)) ?_
  intro W base args ds gs before hval0 hW hcnd _
  have hval : ∀ (j : Nat) t v, Try.f5.params[j]? = some t → args[j]? = some v → Value.okWide Try.prog W .any base t v := hval0
  have hW' := hW
  obtain ⟨p, q, hA0, hV, rfl, hfz, hnd⟩ := hW
  have hA : DataW.TrodAll enc Try.prog W 0 (fun _ => true) true Try.f5.params.toList args.toList ds p := hA0
  rw [Try.params5] at hA hval
  obtain ⟨v0, vs0, d0, ds0, p0, q0, hargs, rfl, rfl, h0, r0⟩ := trodAll_cons hA
  obtain ⟨v1, vs1, d1, ds1, p1, q1, rfl, rfl, rfl, h1, r1⟩ := trodAll_cons r0
  obtain ⟨rfl, rfl, rfl⟩ := trodAll_nil r1
  obtain rfl : args = #[v0, v1] := by cases args; simp_all
  obtain ⟨rfl, rfl⟩ := trodVars_none hV
  have k0 := h0
  have lt0 : ∀ x ∈ p0, x.block < W.heap.size := by obtain ⟨m, hm⟩ := k0; exact DataW.trod_lt m _ _ _ hm
  obtain ⟨l1, hc1⟩ := AreaF.open_pts (hval 0 22 v0 rfl rfl) h0
  have k1 := h1
  have lt1 : ∀ x ∈ p1, x.block < W.heap.size := by obtain ⟨m, hm⟩ := k1; exact DataW.trod_lt m _ _ _ hm
  obtain ⟨w1x0, rfl, l1x0⟩ := Leaf.open_flat (l := [.i .i64, .i .i64, .i .i64]) 9 (by kernel_rfl) (Or.inl ⟨_, Try.underlying34⟩) (hval 1 34 v1 rfl rfl) h1
  obtain ⟨_, w1x1, rfl, ⟨pa, rfl, pa0, pa1⟩, l1x1⟩ := Leaf.Leafs.cons l1x0
  obtain ⟨_, w1x2, rfl, ⟨pb, rfl, pb0, pb1⟩, l1x2⟩ := Leaf.Leafs.cons l1x1
  obtain ⟨_, w1x3, rfl, ⟨pc, rfl, pc0, pc1⟩, l1x3⟩ := Leaf.Leafs.cons l1x2
  obtain rfl : w1x3 = [] := l1x3
  clear hA0 hval0
  refine (HullAb.has_any l1 pa pb pc _ W hc1).mono fun e W' ⟨he, hfr⟩ => ?_
  have bel := Fr.below' hfr
  subst he
  exact ⟨_, rfl, _, _, _, [], _, [], hW', trodAll_mk1 (shut_bool Try.underlying4 _), (trodAll_cons_mk (Below.trod laidOut (by kernel_rfl) (of_decide_eq_true (by kernel_rfl)) k0 bel lt0) (trodAll_cons_mk (Below.trod laidOut (by kernel_rfl) (of_decide_eq_true (by kernel_rfl)) k1 bel lt1) trodAll_mk0)), rfl, bel.frame _, fun h => by cases h⟩

theorem over : Rows.hullHasRow.holds Try.pinned (OpenSpec.ofChange Rows.hullHasSpec) :=
  OpenClaim.holds_of_wide 5 Try.f5 rfl rfl rfl rfl rfl rfl rfl ⟨rfl, rfl, rfl, rfl, rfl⟩ rfl rfl rfl rfl rfl (by kernel_rfl) Try.func5 (by kernel_rfl)
    (of_decide_eq_true (by kernel_rfl)) (by unfold Func.isWrapper; first | (rw [if_pos (by decide +kernel)]; kernel_rfl) | (rw [if_neg (by decide +kernel)]; exact ⟨rfl, rfl⟩))
    (fun os started H enc _ => lifted os started H enc)

/-- HullHas, of every input. -/
theorem proved : Rows.HullHasSaid := over
end Go.Proofs.Ytalbaopfdejooaa.hullHas
