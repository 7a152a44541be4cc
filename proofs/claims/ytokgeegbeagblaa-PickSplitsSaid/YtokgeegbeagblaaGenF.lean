/- Chapter 8: slices.Chunk of pairs by fives: the contract of its iterator. -/
import Derived.RangeFuncNested
import Derived.RangeFuncBound
import Derived.RangeFuncCalls
import Derived.RangeFuncLeaves
import Derived.Shelf.Abstract
import Derived.Shelf.RegionOpen
import Derived.WalkKit
import Derived.OwnWalkIn
import Derived.TacticsInMore
import Derived.LoopNIn
import Derived.LoopIn
import Derived.RegionIn
import Derived.Test.YtokgeegbeagblaaGenE
namespace Go.Proofs.Ytokgeegbeagblaa.GenF
open Go.RowKit Go.Shelf Base SortA SortB
set_option linter.unusedVariables false
set_option linter.unusedSimpArgs false
attribute [local go_sem] Oper.semAt_some

/-- what lay below n₀, apart from S, lies as it lay -/
def KpS (S : Nat → Prop) (n₀ : Nat) (W W' : World) : Prop := ∀ k, k < n₀ → ¬ S k → W'.heap[k]? = W.heap[k]?
theorem KpS.refl {S : Nat → Prop} {n₀ : Nat} (W : World) : KpS S n₀ W W := fun _ _ _ => rfl
theorem KpS.trans {S : Nat → Prop} {n₀ : Nat} {A B C : World} (h : KpS S n₀ A B) (k : KpS S n₀ B C) : KpS S n₀ A C := fun i hi hs => (k i hi hs).trans (h i hi hs)
theorem KpS.of {S : Nat → Prop} {n₀ : Nat} {A B : World} (h : Fr S A B) (hn : n₀ ≤ A.heap.size) : KpS S n₀ A B := fun i hi hs => h.block i (by omega) hs
theorem KpS.cell {S : Nat → Prop} {n₀ : Nat} {A B : World} (h : KpS S n₀ A B) {p : Addr} (hp : p.block < n₀) (hs : ¬ S p.block) : B.cell? p = A.cell? p := World.cell?_of_block (w := A) (h p.block hp hs)

/-- how many chunks of five -/
def nch (len : Nat) : Nat := (len + 4) / 5
/-- chunk j -/
def chV (b off len j : Nat) : Value := .slice (some ⟨b, off + 5 * j * 2, none⟩) (min 5 (len - 5 * j)) (min 5 (len - 5 * j))
abbrev Ch (len : Nat) := { j : Nat // j < nch len }
/-- the chunks that have come -/
def Upto {len : Nat} (k : Nat) (pre : List (Ch len)) : Prop := pre.map (·.1) = List.range k

set_option maxRecDepth 100000 in
set_option maxHeartbeats 2000000 in
theorem chunk1_in (n : Nat) (hn : 1 ≤ n) (S : Nat → Prop) (l Bs Bn n₀ b off len cap : Nat) (hlen : len ≤ 1000) (hcap : len ≤ cap) (hBs : Bs < n₀) (hBn : Bn < n₀) (hSs : ¬ S Bs) (hSn : ¬ S Bn) (J Jx : List (Ch len) → World → Prop)
    (hY : ∀ pre x W, J pre W → pre.length < nch len → YieldAt Fence.wide (n - 1) Try.prog l #[chV b off len x.1] W fun e W' =>
      (e = .returned (.bool true) ∧ J (pre ++ [x]) W' ∧ KpS S n₀ W W') ∨ (e = .returned (.bool false) ∧ Jx (pre ++ [x]) W'))
    (W : World) (hJa : AbidesFrom W.heap.size J) (h1 : W.cell? ⟨Bs, 0, none⟩ = some (.slice (some ⟨b, off, none⟩) len cap)) (h2 : W.cell? ⟨Bn, 0, none⟩ = some (.int .i64 5)) (h0 : J [] W) :
    CallsIn Fence.wide n Try.prog 34 #[.func (.yield l) #[] #[], .pointer (some ⟨Bs, 0, none⟩), .pointer (some ⟨Bn, 0, none⟩)] W fun e W' => (∃ v, e = .returned v) ∧
      ((∃ ys, Upto (nch len) ys ∧ J ys W') ∨ (∃ pre, True ∧ Jx pre W')) := by
  refine callsIn_of_wp Try.func34 rfl trivial ?_ rfl
  simp only [Try.ntmps34, List.size_toArray, List.length_cons, List.length_nil, Nat.reduceAdd, Nat.reduceSub, Array.replicate_succ, Array.replicate_zero, List.push_toArray, List.append_toArray, List.nil_append, List.cons_append]
  gi_wp2
  gi_loopw [4] (fun i wr => ∃ (k : Nat) (pre : List (Ch len)), k ≤ nch len ∧ i = .int .i64 ((5 * k : Nat) : Int) ∧ Upto k pre ∧ J pre wr ∧ KpS S n₀ W wr)
    (fun i _ => 5 * nch len - (intOf i).toNat)
  case atStart => exact ⟨0, [], Nat.zero_le _, rfl, rfl, h0, KpS.refl _⟩
  case round =>
    obtain ⟨k, pre, hk, rfl, hu, hJs, hnx⟩ := hrel
    have q1 := (hnx.cell (p := ⟨Bs, 0, none⟩) hBs hSs).trans h1
    have q2 := (hnx.cell (p := ⟨Bn, 0, none⟩) hBn hSn).trans h2
    by_cases hlt : k < nch len
    · have hkl : 5 * k < len := by unfold nch at hlt; omega
      obtain ⟨s, hs⟩ : ∃ s, 5 * k = s := ⟨_, rfl⟩
      rw [hs] at hkl ⊢
      have HK := Lib.hid hk
      have HU := Lib.hid hu
      have HS := Lib.hid hs
      have HJ := Lib.hid hJs
      have HX := Lib.hid hnx
      obtain ⟨m, hm⟩ : ∃ m, min 5 (len - s) = m := ⟨_, rfl⟩
      have hlen' : (len : Int) ≤ 1000 := by omega
      have s0 : (0 : Int) ≤ s := by omega
      have s1 : (s : Int) < len := by omega
      have s2 : (s : Int) ≤ len := by omega
      have s3 : (s : Int) ≤ cap := by omega
      have s4 : (len : Int) ≤ cap := by omega
      clear hk hu hs hJs hnx
      gi_wp2
      gi_region
      rw [show (if ((len - s : Nat) : Int) < 5 then ((len - s : Nat) : Int) else 5) = (m : Int) by split <;> omega]
      have m0 : (0 : Int) ≤ m := by omega
      have m1 : (s : Int) + m ≤ len := by omega
      have m2 : (s : Int) + m ≤ cap := by omega
      have m3 : (s : Int) ≤ s + m := by omega
      have m4 : (0 : Int) ≤ s + m := by omega
      have m5 : ¬ m = 0 := by omega
      have HM := Lib.hid hm
      have hJ2 : J pre wr.drew := hJa pre wr wr.drew none HJ.out ⟨rfl, rfl, rfl, Nat.le_refl _, fun _ _ _ => rfl⟩ (fun r e => by cases e)
      have hlen3 : pre.length = k := by have h := HU.out; unfold Upto at h; have := congrArg List.length h; simpa using this
      obtain ⟨fn, tmps, assign, body, hy, hR⟩ := hY pre ⟨k, hlt⟩ wr.drew hJ2 (by omega)
      have hcv : chV b off len k = .slice (some ⟨b, off + s * 2, none⟩) m m := by unfold chV; rw [HS.out, HM.out]
      dsimp only at hy
      rw [hcv] at hy
      clear hJ2 hcv hm hlen3 hJa
      gi_wp2
      have HM5 := Lib.hid (show s + 5 = 5 * (k + 1) by have := HS.out; omega)
      refine hR.mono ?_
      rintro e W3 (⟨rfl, hJ3, hk3⟩ | ⟨rfl, hJx3⟩)
      · have HX3 := Lib.hid ((HX.out.trans (KpS.refl (S := S) (n₀ := n₀) wr)).trans hk3)
        have q3 := (HX3.out.cell (p := ⟨Bn, 0, none⟩) hBn hSn).trans h2
        gi_wp2
        go_roundw
        case rel => exact ⟨k + 1, _, hlt, by rw [← HM5.out]; go_num, by have h := HU.out; unfold Upto at h ⊢; rw [List.map_append, h, List.range_succ]; rfl, hJ3, HX3.out⟩
        case measure => simp [intOf]; have := HS.out; omega
      · gi_wp2
        refine bodyPost_ret (results_none rfl _ _ _) rfl ?_
        exact ⟨⟨_, rfl⟩, .inr ⟨_, trivial, hJx3⟩⟩
    · obtain rfl : k = nch len := by omega
      have h5 : ¬ ((5 * nch len : Nat) : Int) < len := by unfold nch; omega
      gi_wp2
      go_end0
      exact ⟨⟨_, rfl⟩, .inl ⟨_, hu, hJs⟩⟩
end Go.Proofs.Ytokgeegbeagblaa.GenF
