/- The law KernBetween: for every input the call returns true and leaves its arguments as they were. -/
import Derived.Test.YtpngeaklfjofiaaKernF
import Derived.Test.YtpngeaklfjofiaaLeaf
import Derived.Test.YtpngeaklfjofiaaRows
import Derived.Carry
import Derived.ProofKit
namespace Go.Proofs.Ytpngeaklfjofiaa.kernBetween
open Go.ChangeShapes Go.WideShapes Go.ChangeAt Go.RowKit Go.Deep Base
set_option linter.unusedVariables false

theorem own : ownKnob Try.prog.godebug = none := by kernel_rfl
theorem laidOut : laidOutB Try.prog = true := by kernel_rfl

set_option maxRecDepth 100000 in
theorem lifted (os : Os) (started : os.Started) (H : Type) (enc : TypeId × Value → H) :
    ReturnsInHanded {} Try.checked os 4 .any (Rows.kernBetweenSpec.pre6 enc Try.prog Try.f4 Rows.kernBetweenRow.domain false) (Rows.kernBetweenSpec.post enc Try.prog Try.f4 false true false false) := by
  refine returnsInHanded_of_change (C := Try.checked) own started (by kernel_rfl) Try.func4
    (ChangeSpec.witness6 (enc := enc) (C := Try.checked) false ⟨#[], #[.agg #[.int .i64 0, .int .i64 0, .int .i64 0], .agg #[.int .i64 0, .int .i64 0, .int .i64 0], .agg #[.int .i64 0, .int .i64 0, .int .i64 0]], []⟩ 8 (by kernel_rfl) (by kernel_rfl) (by kernel_rfl) (by kernel_rfl)) ?_
  intro W base args ds gs before hval0 hW hcnd _
  have hval : ∀ (j : Nat) t v, Try.f4.params[j]? = some t → args[j]? = some v → Value.okWide Try.prog W .any base t v := hval0
  have hW' := hW
  obtain ⟨p, q, hA0, hV, rfl, hfz, hnd⟩ := hW
  have hA : DataW.TrodAll enc Try.prog W 0 (fun _ => true) true Try.f4.params.toList args.toList ds p := hA0
  rw [Try.params4] at hA hval
  obtain ⟨v0, vs0, d0, ds0, p0, q0, hargs, rfl, rfl, h0, r0⟩ := trodAll_cons hA
  obtain ⟨v1, vs1, d1, ds1, p1, q1, rfl, rfl, rfl, h1, r1⟩ := trodAll_cons r0
  obtain ⟨v2, vs2, d2, ds2, p2, q2, rfl, rfl, rfl, h2, r2⟩ := trodAll_cons r1
  obtain ⟨rfl, rfl, rfl⟩ := trodAll_nil r2
  obtain rfl : args = #[v0, v1, v2] := by cases args; simp_all
  obtain ⟨rfl, rfl⟩ := trodVars_none hV
  have k0 := h0
  have lt0 : ∀ x ∈ p0, x.block < W.heap.size := by obtain ⟨m, hm⟩ := k0; exact DataW.trod_lt m _ _ _ hm
  obtain ⟨w0x0, rfl, l0x0⟩ := Leaf.open_flat (l := [.i .i64, .i .i64, .i .i64]) 9 (by kernel_rfl) (Or.inl ⟨_, Try.underlying23⟩) (hval 0 23 v0 rfl rfl) h0
  obtain ⟨_, w0x1, rfl, ⟨ai, rfl, ai0, ai1⟩, l0x1⟩ := Leaf.Leafs.cons l0x0
  obtain ⟨_, w0x2, rfl, ⟨ax, rfl, ax0, ax1⟩, l0x2⟩ := Leaf.Leafs.cons l0x1
  obtain ⟨_, w0x3, rfl, ⟨ay, rfl, ay0, ay1⟩, l0x3⟩ := Leaf.Leafs.cons l0x2
  obtain rfl : w0x3 = [] := l0x3
  have k1 := h1
  have lt1 : ∀ x ∈ p1, x.block < W.heap.size := by obtain ⟨m, hm⟩ := k1; exact DataW.trod_lt m _ _ _ hm
  obtain ⟨w1x0, rfl, l1x0⟩ := Leaf.open_flat (l := [.i .i64, .i .i64, .i .i64]) 9 (by kernel_rfl) (Or.inl ⟨_, Try.underlying23⟩) (hval 1 23 v1 rfl rfl) h1
  obtain ⟨_, w1x1, rfl, ⟨bi, rfl, bi0, bi1⟩, l1x1⟩ := Leaf.Leafs.cons l1x0
  obtain ⟨_, w1x2, rfl, ⟨bx, rfl, bx0, bx1⟩, l1x2⟩ := Leaf.Leafs.cons l1x1
  obtain ⟨_, w1x3, rfl, ⟨bv, rfl, bv0, bv1⟩, l1x3⟩ := Leaf.Leafs.cons l1x2
  obtain rfl : w1x3 = [] := l1x3
  have k2 := h2
  have lt2 : ∀ x ∈ p2, x.block < W.heap.size := by obtain ⟨m, hm⟩ := k2; exact DataW.trod_lt m _ _ _ hm
  obtain ⟨w2x0, rfl, l2x0⟩ := Leaf.open_flat (l := [.i .i64, .i .i64, .i .i64]) 9 (by kernel_rfl) (Or.inl ⟨_, Try.underlying23⟩) (hval 2 23 v2 rfl rfl) h2
  obtain ⟨_, w2x1, rfl, ⟨ci, rfl, ci0, ci1⟩, l2x1⟩ := Leaf.Leafs.cons l2x0
  obtain ⟨_, w2x2, rfl, ⟨cx, rfl, cx0, cx1⟩, l2x2⟩ := Leaf.Leafs.cons l2x1
  obtain ⟨_, w2x3, rfl, ⟨cy, rfl, cy0, cy1⟩, l2x3⟩ := Leaf.Leafs.cons l2x2
  obtain rfl : w2x3 = [] := l2x3
  clear hA0 hval0
  refine (KernF.betweens_any ai ax ay bi bx bv ci cx cy W).mono fun e W' ⟨he, hfr⟩ => ?_
  have bel := Fr.below' hfr
  subst he
  exact ⟨_, rfl, _, _, _, [], _, [], hW', trodAll_mk1 (shut_bool Try.underlying4 _), (trodAll_cons_mk (Below.trod laidOut (by kernel_rfl) (of_decide_eq_true (by kernel_rfl)) k0 bel lt0) (trodAll_cons_mk (Below.trod laidOut (by kernel_rfl) (of_decide_eq_true (by kernel_rfl)) k1 bel lt1) (trodAll_cons_mk (Below.trod laidOut (by kernel_rfl) (of_decide_eq_true (by kernel_rfl)) k2 bel lt2) trodAll_mk0))), rfl, bel.frame _, fun h => by cases h⟩

theorem over : Rows.kernBetweenRow.holds Try.pinned (OpenSpec.ofChange Rows.kernBetweenSpec) :=
  OpenClaim.holds_of_wide 4 Try.f4 rfl rfl rfl rfl rfl rfl rfl ⟨rfl, rfl, rfl, rfl, rfl⟩ rfl rfl rfl rfl rfl (by kernel_rfl) Try.func4 (by kernel_rfl)
    (of_decide_eq_true (by kernel_rfl)) (by unfold Func.isWrapper; first | (rw [if_pos (by decide +kernel)]; kernel_rfl) | (rw [if_neg (by decide +kernel)]; exact ⟨rfl, rfl⟩))
    (fun os started H enc _ => lifted os started H enc)

/-- KernBetween, of every input. -/
theorem proved : Rows.KernBetweenSaid := over
end Go.Proofs.Ytpngeaklfjofiaa.kernBetween
