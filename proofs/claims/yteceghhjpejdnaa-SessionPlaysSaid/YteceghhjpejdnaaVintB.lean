/- Numbers as bytes: the walks of folded, put, Clone of bytes, Int. -/
import Derived.Test.YteceghhjpejdnaaVintA
import Derived.Test.YteceghhjpejdnaaSlices
import Derived.Test.YteceghhjpejdnaaQuiet
import Derived.Test.YteceghhjpejdnaaChecked
import Derived.Laws.BitsAllLaws
import Derived.Lib.Zigzag
namespace Go.Proofs.Yteceghhjpejdnaa.VintB
open Go.RowKit Base Slices VintA
set_option linter.unusedVariables false
set_option linter.unusedSimpArgs false

theorem Try.info_byte : (Try.prog.info? 5).map (fun i => (i.zero, i.size, i.bytes)) = some (some (.int .u8 0), 1, 1) := by kernel_rfl
/-- a row grew: only its own block turned, and it lies there or in a new one -/
def Ext (w : World) (v : Value) (w' : World) (u : Value) : Prop := Fr (Of v) w w' ∧ ∀ g, u.ownBlock = some g → v.ownBlock = some g ∨ w.heap.size ≤ g
theorem Ext.refl (w : World) (v : Value) : Ext w v w v := ⟨Fr.refl _ _, fun _ h => Or.inl h⟩
theorem Ext.trans {w w1 w2 : World} {v u x : Value} (h : Ext w v w1 u) (k : Ext w1 u w2 x) : Ext w v w2 x := by
  refine ⟨h.1.then k.1 fun i hi hlt => ?_, fun g hg => ?_⟩
  · rcases h.2 i hi with h1 | h1
    · exact h1
    · omega
  · rcases k.2 g hg with h1 | h1
    · exact h.2 g h1
    · exact Or.inr (Nat.le_trans h.1.size h1)
theorem Ext.nil {w w1 w2 : World} {v u : Value} (h : Ext w v w1 u) (k : Fr Nil w1 w2) : Ext w v w2 u := ⟨h.1.trans k.of_nil, h.2⟩
theorem Ext.since {w w1 w2 : World} {v u : Value} (h : Fr Nil w w1) (k : Ext w1 v w2 u) : Ext w v w2 u := ⟨h.of_nil.trans k.1, fun g hg => (k.2 g hg).imp id fun e => Nat.le_trans h.size e⟩
/-- grown from a row that is new -/
theorem Ext.fresh {w w1 w2 : World} {v u : Value} (h : Fr Nil w w1) (hv : ∀ g, v.ownBlock = some g → w.heap.size ≤ g) (k : Ext w1 v w2 u) : Fr Nil w w2 := h.then k.1 fun i hi hlt => absurd (hv i hi) (by omega)

theorem fold_zig (n : Int) : fold n = Lib.zigzag n := by
  unfold fold Lib.zigzag
  split <;> omega

theorem wrap64u (n : Int) : IntKind.u64.wrap n = n % 18446744073709551616 := by simp [IntKind.wrap, IntKind.bits, IntKind.signed]
theorem fold_bits (n : Int) (h0 : -9223372036854775808 ≤ n) (h1 : n ≤ 9223372036854775807) :
    bits .xor .u64 (IntKind.u64.wrap (IntKind.u64.wrap n * 2)) (IntKind.u64.wrap (n / 9223372036854775808)) = ((fold n : Nat) : Int) := by
  by_cases h : 0 ≤ n
  · have e1 : IntKind.u64.wrap (IntKind.u64.wrap n * 2) = (((2 * n).toNat : Nat) : Int) := by
      rw [wrap64u, wrap64u]; omega
    have e2 : IntKind.u64.wrap (n / 9223372036854775808) = ((0 : Nat) : Int) := by
      rw [wrap64u]; omega
    rw [e1, e2, bits_xor_u64_nat _ _ (by omega) (by decide), Nat.xor_zero]
    unfold fold
    rw [if_pos h]
    omega
  · have e1 : IntKind.u64.wrap (IntKind.u64.wrap n * 2) = (((2 * n + 18446744073709551616).toNat : Nat) : Int) := by
      rw [wrap64u, wrap64u]; omega
    have e2 : IntKind.u64.wrap (n / 9223372036854775808) = ((2 ^ 64 - 1 : Nat) : Int) := by
      rw [wrap64u]; omega
    rw [e1, e2, bits_xor_u64_nat _ _ (by omega) (by decide), Nat.xor_comm, Lib.xor_ones64 _ (by omega)]
    unfold fold
    rw [if_neg h]
    omega

theorem u8_of (k : Nat) : (k : Int) % 256 = ((k % 256 : Nat) : Int) := by omega
theorem more_of (k : Nat) : bits .or .u8 ((k : Int) % 256) 128 = ((k % 128 + 128 : Nat) : Int) := by
  rw [u8_of, Lib.u8_or128_any _ (by omega) (by omega)]
  omega

end Go.Proofs.Yteceghhjpejdnaa.VintB
