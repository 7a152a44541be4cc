/- The law KernOrders: for every input the call returns true and leaves its arguments as they were. -/
import Derived.Test.YtpngeaklfjofiaaKernH
import Derived.Test.YtpngeaklfjofiaaLeaf
import Derived.Test.YtpngeaklfjofiaaRows
import Derived.Carry
import Derived.ProofKit
namespace Go.Proofs.Ytpngeaklfjofiaa.kernOrders
open Go.ChangeShapes Go.WideShapes Go.ChangeAt Go.RowKit Go.Deep Base
set_option linter.unusedVariables false

theorem own : ownKnob Try.prog.godebug = none := by kernel_rfl
theorem laidOut : laidOutB Try.prog = true := by kernel_rfl

set_option maxRecDepth 100000 in
theorem lifted (os : Os) (started : os.Started) (H : Type) (enc : TypeId × Value → H) :
    ReturnsInHanded {} Try.checked os 5 .any (Rows.kernOrdersSpec.pre6 enc Try.prog Try.f5 Rows.kernOrdersRow.domain false) (Rows.kernOrdersSpec.post enc Try.prog Try.f5 false true false false) := by
  refine returnsInHanded_of_change (C := Try.checked) own started (by kernel_rfl) Try.func5
    (ChangeSpec.witness6 (enc := enc) (C := Try.checked) false ⟨#[], #[.agg #[.int .i64 0, .int .i64 0, .int .i64 0], .agg #[.int .i64 0, .int .i64 0, .int .i64 0], .agg #[.int .i64 0, .int .i64 0, .int .i64 0, .int .i64 0, .int .i64 0, .int .i64 0]], []⟩ 8 (by kernel_rfl) (by kernel_rfl) (by kernel_rfl) (by kernel_rfl)) ?_
  intro W base args ds gs before hval0 hW hcnd _
  have hval : ∀ (j : Nat) t v, Try.f5.params[j]? = some t → args[j]? = some v → Value.okWide Try.prog W .any base t v := hval0
  have hW' := hW
  obtain ⟨p, q, hA0, hV, rfl, hfz, hnd⟩ := hW
  have hA : DataW.TrodAll enc Try.prog W 0 (fun _ => true) true Try.f5.params.toList args.toList ds p := hA0
  rw [Try.params5] at hA hval
  obtain ⟨v0, vs0, d0, ds0, p0, q0, hargs, rfl, rfl, h0, r0⟩ := trodAll_cons hA
  obtain ⟨v1, vs1, d1, ds1, p1, q1, rfl, rfl, rfl, h1, r1⟩ := trodAll_cons r0
  obtain ⟨v2, vs2, d2, ds2, p2, q2, rfl, rfl, rfl, h2, r2⟩ := trodAll_cons r1
  obtain ⟨rfl, rfl, rfl⟩ := trodAll_nil r2
  obtain rfl : args = #[v0, v1, v2] := by cases args; simp_all
  obtain ⟨rfl, rfl⟩ := trodVars_none hV
  have k0 := h0
  have lt0 : ∀ x ∈ p0, x.block < W.heap.size := by obtain ⟨m, hm⟩ := k0; exact DataW.trod_lt m _ _ _ hm
  obtain ⟨w0x0, rfl, l0x0⟩ := Leaf.open_flat (l := [.i .i64, .i .i64, .i .i64]) 9 (by kernel_rfl) (Or.inl ⟨_, Try.underlying23⟩) (hval 0 23 v0 rfl rfl) h0
  obtain ⟨_, w0x1, rfl, ⟨ni, rfl, ni0, ni1⟩, l0x1⟩ := Leaf.Leafs.cons l0x0
  obtain ⟨_, w0x2, rfl, ⟨nx, rfl, nx0, nx1⟩, l0x2⟩ := Leaf.Leafs.cons l0x1
  obtain ⟨_, w0x3, rfl, ⟨ny, rfl, ny0, ny1⟩, l0x3⟩ := Leaf.Leafs.cons l0x2
  obtain rfl : w0x3 = [] := l0x3
  have k1 := h1
  have lt1 : ∀ x ∈ p1, x.block < W.heap.size := by obtain ⟨m, hm⟩ := k1; exact DataW.trod_lt m _ _ _ hm
  obtain ⟨w1x0, rfl, l1x0⟩ := Leaf.open_flat (l := [.i .i64, .i .i64, .i .i64]) 9 (by kernel_rfl) (Or.inl ⟨_, Try.underlying23⟩) (hval 1 23 v1 rfl rfl) h1
  obtain ⟨_, w1x1, rfl, ⟨nj, rfl, nj0, nj1⟩, l1x1⟩ := Leaf.Leafs.cons l1x0
  obtain ⟨_, w1x2, rfl, ⟨nu, rfl, nu0, nu1⟩, l1x2⟩ := Leaf.Leafs.cons l1x1
  obtain ⟨_, w1x3, rfl, ⟨nv, rfl, nv0, nv1⟩, l1x3⟩ := Leaf.Leafs.cons l1x2
  obtain rfl : w1x3 = [] := l1x3
  have k2 := h2
  have lt2 : ∀ x ∈ p2, x.block < W.heap.size := by obtain ⟨m, hm⟩ := k2; exact DataW.trod_lt m _ _ _ hm
  obtain ⟨w2x0, rfl, l2x0⟩ := Leaf.open_flat (l := [.i .i64, .i .i64, .i .i64, .i .i64, .i .i64, .i .i64]) 9 (by kernel_rfl) (Or.inr ⟨_, _, Try.underlying30⟩) (hval 2 30 v2 rfl rfl) h2
  obtain ⟨_, w2x1, rfl, ⟨na, rfl, na0, na1⟩, l2x1⟩ := Leaf.Leafs.cons l2x0
  obtain ⟨_, w2x2, rfl, ⟨nb, rfl, nb0, nb1⟩, l2x2⟩ := Leaf.Leafs.cons l2x1
  obtain ⟨_, w2x3, rfl, ⟨nc, rfl, nc0, nc1⟩, l2x3⟩ := Leaf.Leafs.cons l2x2
  obtain ⟨_, w2x4, rfl, ⟨nd, rfl, nd0, nd1⟩, l2x4⟩ := Leaf.Leafs.cons l2x3
  obtain ⟨_, w2x5, rfl, ⟨nk, rfl, nk0, nk1⟩, l2x5⟩ := Leaf.Leafs.cons l2x4
  obtain ⟨_, w2x6, rfl, ⟨nf, rfl, nf0, nf1⟩, l2x6⟩ := Leaf.Leafs.cons l2x5
  obtain rfl : w2x6 = [] := l2x6
  clear hA0 hval0
  refine (KernH.orders_any ni nx ny nj nu nv na nb nc nd nk nf W).mono fun e W' ⟨he, hfr⟩ => ?_
  have bel := Fr.below' hfr
  subst he
  exact ⟨_, rfl, _, _, _, [], _, [], hW', trodAll_mk1 (shut_bool Try.underlying4 _), (trodAll_cons_mk (Below.trod laidOut (by kernel_rfl) (of_decide_eq_true (by kernel_rfl)) k0 bel lt0) (trodAll_cons_mk (Below.trod laidOut (by kernel_rfl) (of_decide_eq_true (by kernel_rfl)) k1 bel lt1) (trodAll_cons_mk (Below.trod laidOut (by kernel_rfl) (of_decide_eq_true (by kernel_rfl)) k2 bel lt2) trodAll_mk0))), rfl, bel.frame _, fun h => by cases h⟩

theorem over : Rows.kernOrdersRow.holds Try.pinned (OpenSpec.ofChange Rows.kernOrdersSpec) :=
  OpenClaim.holds_of_wide 5 Try.f5 rfl rfl rfl rfl rfl rfl rfl ⟨rfl, rfl, rfl, rfl, rfl⟩ rfl rfl rfl rfl rfl (by kernel_rfl) Try.func5 (by kernel_rfl)
    (of_decide_eq_true (by kernel_rfl)) (by unfold Func.isWrapper; first | (rw [if_pos (by decide +kernel)]; kernel_rfl) | (rw [if_neg (by decide +kernel)]; exact ⟨rfl, rfl⟩))
    (fun os started H enc _ => lifted os started H enc)

/-- KernOrders, of every input. -/
theorem proved : Rows.KernOrdersSaid := over
end Go.Proofs.Ytpngeaklfjofiaa.kernOrders
