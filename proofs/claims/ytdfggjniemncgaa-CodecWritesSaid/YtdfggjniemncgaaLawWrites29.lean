/- The law CodecWrites: for every input the call returns true and leaves its arguments as they were. -/
import Derived.Test.YtdfggjniemncgaaCodecO
import Derived.Test.YtdfggjniemncgaaRows
import Derived.Carry
import Derived.ProofKit
namespace Go.Proofs.Ytdfggjniemncgaa.codecWrites
open Go.ChangeShapes Go.WideShapes Go.ChangeAt Go.RowKit Go.Deep Base
set_option linter.unusedVariables false

theorem own : ownKnob Try.prog.godebug = none := by kernel_rfl
theorem laidOut : laidOutB Try.prog = true := by kernel_rfl

set_option maxRecDepth 100000 in
theorem lifted (os : Os) (started : os.Started) (H : Type) (enc : TypeId × Value → H) :
    ReturnsInHanded {} Try.checked os 6 .any (Rows.codecWritesSpec.pre6 enc Try.prog Try.f6 Rows.codecWritesRow.domain false) (Rows.codecWritesSpec.post enc Try.prog Try.f6 false true false false) := by
  refine returnsInHanded_of_change (C := Try.checked) own started (by kernel_rfl) Try.func6
    (ChangeSpec.witness6 (enc := enc) (C := Try.checked) false ⟨#[], #[.agg #[.int .i64 0, .int .i64 0, .int .i64 0, .int .i64 0, .int .i64 0, .int .i64 0, .int .i64 0, .int .i64 0, .int .i64 0, .int .i64 0, .int .i64 0, .int .i64 0, .int .i64 0, .int .i64 0, .int .i64 0, .int .i64 0, .int .i64 0, .int .i64 0], .agg #[.int .i64 0, .int .i64 0, .int .i64 0, .int .i64 0, .int .i64 0, .int .i64 0, .int .i64 0, .int .i64 0, .int .i64 0, .int .i64 0, .int .i64 0, .int .i64 0, .int .i64 0, .int .i64 0, .int .i64 0, .int .i64 0, .int .i64 0, .int .i64 0]], []⟩ 8 (by kernel_rfl) (by kernel_rfl) (by kernel_rfl) (by kernel_rfl)) ?_
  intro W base args ds gs before hval0 hW hcnd _
  have hval : ∀ (j : Nat) t v, Try.f6.params[j]? = some t → args[j]? = some v → Value.okWide Try.prog W .any base t v := hval0
  have hW' := hW
  obtain ⟨p, q, hA0, hV, rfl, hfz, hnd⟩ := hW
  have hA : DataW.TrodAll enc Try.prog W 0 (fun _ => true) true Try.f6.params.toList args.toList ds p := hA0
  rw [Try.params6] at hA hval
  obtain ⟨v0, vs0, d0, ds0, p0, q0, hargs, rfl, rfl, h0, r0⟩ := trodAll_cons hA
  obtain ⟨v1, vs1, d1, ds1, p1, q1, rfl, rfl, rfl, h1, r1⟩ := trodAll_cons r0
  obtain ⟨rfl, rfl, rfl⟩ := trodAll_nil r1
  obtain rfl : args = #[v0, v1] := by cases args; simp_all
  obtain ⟨rfl, rfl⟩ := trodVars_none hV
  have k0 := h0
  have lt0 : ∀ x ∈ p0, x.block < W.heap.size := by obtain ⟨m, hm⟩ := k0; exact DataW.trod_lt m _ _ _ hm
  obtain ⟨w0x0, rfl, l0x0⟩ := Leaf.open_flat (l := [.i .i64, .i .i64, .i .i64, .i .i64, .i .i64, .i .i64, .i .i64, .i .i64, .i .i64, .i .i64, .i .i64, .i .i64, .i .i64, .i .i64, .i .i64, .i .i64, .i .i64, .i .i64]) 9 (by kernel_rfl) (Or.inl ⟨_, Try.underlying36⟩) (hval 0 36 v0 rfl rfl) h0
  obtain ⟨_, w0x1, rfl, ⟨ra, rfl, ra0, ra1⟩, l0x1⟩ := Leaf.Leafs.cons l0x0
  obtain ⟨_, w0x2, rfl, ⟨rb, rfl, rb0, rb1⟩, l0x2⟩ := Leaf.Leafs.cons l0x1
  obtain ⟨_, w0x3, rfl, ⟨rc, rfl, rc0, rc1⟩, l0x3⟩ := Leaf.Leafs.cons l0x2
  obtain ⟨_, w0x4, rfl, ⟨rd, rfl, rd0, rd1⟩, l0x4⟩ := Leaf.Leafs.cons l0x3
  obtain ⟨_, w0x5, rfl, ⟨re, rfl, re0, re1⟩, l0x5⟩ := Leaf.Leafs.cons l0x4
  obtain ⟨_, w0x6, rfl, ⟨rf, rfl, rf0, rf1⟩, l0x6⟩ := Leaf.Leafs.cons l0x5
  obtain ⟨_, w0x7, rfl, ⟨rg, rfl, rg0, rg1⟩, l0x7⟩ := Leaf.Leafs.cons l0x6
  obtain ⟨_, w0x8, rfl, ⟨rh, rfl, rh0, rh1⟩, l0x8⟩ := Leaf.Leafs.cons l0x7
  obtain ⟨_, w0x9, rfl, ⟨ri, rfl, ri0, ri1⟩, l0x9⟩ := Leaf.Leafs.cons l0x8
  obtain ⟨_, w0x10, rfl, ⟨rj, rfl, rj0, rj1⟩, l0x10⟩ := Leaf.Leafs.cons l0x9
  obtain ⟨_, w0x11, rfl, ⟨rk, rfl, rk0, rk1⟩, l0x11⟩ := Leaf.Leafs.cons l0x10
  obtain ⟨_, w0x12, rfl, ⟨rl, rfl, rl0, rl1⟩, l0x12⟩ := Leaf.Leafs.cons l0x11
  obtain ⟨_, w0x13, rfl, ⟨rm, rfl, rm0, rm1⟩, l0x13⟩ := Leaf.Leafs.cons l0x12
  obtain ⟨_, w0x14, rfl, ⟨rn, rfl, rn0, rn1⟩, l0x14⟩ := Leaf.Leafs.cons l0x13
  obtain ⟨_, w0x15, rfl, ⟨ro, rfl, ro0, ro1⟩, l0x15⟩ := Leaf.Leafs.cons l0x14
  obtain ⟨_, w0x16, rfl, ⟨rp, rfl, rp0, rp1⟩, l0x16⟩ := Leaf.Leafs.cons l0x15
  obtain ⟨_, w0x17, rfl, ⟨rq, rfl, rq0, rq1⟩, l0x17⟩ := Leaf.Leafs.cons l0x16
  obtain ⟨_, w0x18, rfl, ⟨rr, rfl, rr0, rr1⟩, l0x18⟩ := Leaf.Leafs.cons l0x17
  obtain rfl : w0x18 = [] := l0x18
  have k1 := h1
  have lt1 : ∀ x ∈ p1, x.block < W.heap.size := by obtain ⟨m, hm⟩ := k1; exact DataW.trod_lt m _ _ _ hm
  obtain ⟨w1x0, rfl, l1x0⟩ := Leaf.open_flat (l := [.i .i64, .i .i64, .i .i64, .i .i64, .i .i64, .i .i64, .i .i64, .i .i64, .i .i64, .i .i64, .i .i64, .i .i64, .i .i64, .i .i64, .i .i64, .i .i64, .i .i64, .i .i64]) 9 (by kernel_rfl) (Or.inl ⟨_, Try.underlying36⟩) (hval 1 36 v1 rfl rfl) h1
  obtain ⟨_, w1x1, rfl, ⟨sa, rfl, sa0, sa1⟩, l1x1⟩ := Leaf.Leafs.cons l1x0
  obtain ⟨_, w1x2, rfl, ⟨sb, rfl, sb0, sb1⟩, l1x2⟩ := Leaf.Leafs.cons l1x1
  obtain ⟨_, w1x3, rfl, ⟨sc, rfl, sc0, sc1⟩, l1x3⟩ := Leaf.Leafs.cons l1x2
  obtain ⟨_, w1x4, rfl, ⟨sd, rfl, sd0, sd1⟩, l1x4⟩ := Leaf.Leafs.cons l1x3
  obtain ⟨_, w1x5, rfl, ⟨se, rfl, se0, se1⟩, l1x5⟩ := Leaf.Leafs.cons l1x4
  obtain ⟨_, w1x6, rfl, ⟨sf, rfl, sf0, sf1⟩, l1x6⟩ := Leaf.Leafs.cons l1x5
  obtain ⟨_, w1x7, rfl, ⟨sg, rfl, sg0, sg1⟩, l1x7⟩ := Leaf.Leafs.cons l1x6
  obtain ⟨_, w1x8, rfl, ⟨sh, rfl, sh0, sh1⟩, l1x8⟩ := Leaf.Leafs.cons l1x7
  obtain ⟨_, w1x9, rfl, ⟨si, rfl, si0, si1⟩, l1x9⟩ := Leaf.Leafs.cons l1x8
  obtain ⟨_, w1x10, rfl, ⟨sj, rfl, sj0, sj1⟩, l1x10⟩ := Leaf.Leafs.cons l1x9
  obtain ⟨_, w1x11, rfl, ⟨sk, rfl, sk0, sk1⟩, l1x11⟩ := Leaf.Leafs.cons l1x10
  obtain ⟨_, w1x12, rfl, ⟨sl, rfl, sl0, sl1⟩, l1x12⟩ := Leaf.Leafs.cons l1x11
  obtain ⟨_, w1x13, rfl, ⟨sm, rfl, sm0, sm1⟩, l1x13⟩ := Leaf.Leafs.cons l1x12
  obtain ⟨_, w1x14, rfl, ⟨sn, rfl, sn0, sn1⟩, l1x14⟩ := Leaf.Leafs.cons l1x13
  obtain ⟨_, w1x15, rfl, ⟨so, rfl, so0, so1⟩, l1x15⟩ := Leaf.Leafs.cons l1x14
  obtain ⟨_, w1x16, rfl, ⟨sp, rfl, sp0, sp1⟩, l1x16⟩ := Leaf.Leafs.cons l1x15
  obtain ⟨_, w1x17, rfl, ⟨sq, rfl, sq0, sq1⟩, l1x17⟩ := Leaf.Leafs.cons l1x16
  obtain ⟨_, w1x18, rfl, ⟨sr, rfl, sr0, sr1⟩, l1x18⟩ := Leaf.Leafs.cons l1x17
  obtain rfl : w1x18 = [] := l1x18
  clear hA0 hval0
  refine (CodecO.writes_any W ⟨ra, rb, rc, rd, re, rf, rg, rh, ri, rj, rk, rl, rm, rn, ro, rp, rq, rr⟩ ⟨sa, sb, sc, sd, se, sf, sg, sh, si, sj, sk, sl, sm, sn, so, sp, sq, sr⟩ (CodecL.long_of ra0 ra1 rb0 rb1 rc0 rc1 rd0 rd1 re0 re1 rf0 rf1 rg0 rg1 rh0 rh1 ri0 ri1 rj0 rj1 rk0 rk1 rl0 rl1 rm0 rm1 rn0 rn1 ro0 ro1 rp0 rp1 rq0 rq1 rr0 rr1) (CodecL.long_of sa0 sa1 sb0 sb1 sc0 sc1 sd0 sd1 se0 se1 sf0 sf1 sg0 sg1 sh0 sh1 si0 si1 sj0 sj1 sk0 sk1 sl0 sl1 sm0 sm1 sn0 sn1 so0 so1 sp0 sp1 sq0 sq1 sr0 sr1)).mono fun e W' ⟨he, hfr⟩ => ?_
  have bel := Fr.below' hfr
  subst he
  exact ⟨_, rfl, _, _, _, [], _, [], hW', trodAll_mk1 (shut_bool Try.underlying4 _), (trodAll_cons_mk (Below.trod laidOut (by kernel_rfl) (of_decide_eq_true (by kernel_rfl)) k0 bel lt0) (trodAll_cons_mk (Below.trod laidOut (by kernel_rfl) (of_decide_eq_true (by kernel_rfl)) k1 bel lt1) trodAll_mk0)), rfl, bel.frame _, fun h => by cases h⟩

theorem over : Rows.codecWritesRow.holds Try.pinned (OpenSpec.ofChange Rows.codecWritesSpec) :=
  OpenClaim.holds_of_wide 6 Try.f6 rfl rfl rfl rfl rfl rfl rfl ⟨rfl, rfl, rfl, rfl, rfl⟩ rfl rfl rfl rfl rfl (by kernel_rfl) Try.func6 (by kernel_rfl)
    (of_decide_eq_true (by kernel_rfl)) (by unfold Func.isWrapper; first | (rw [if_pos (by decide +kernel)]; kernel_rfl) | (rw [if_neg (by decide +kernel)]; exact ⟨rfl, rfl⟩))
    (fun os started H enc _ => lifted os started H enc)

/-- CodecWrites, of every input. -/
theorem proved : Rows.CodecWritesSaid := over
end Go.Proofs.Ytdfggjniemncgaa.codecWrites
