/- Numbers as bytes: the walks of unfolded, bytes.Equal, read, Read. -/
import Derived.Test.YteceghhjpejdnaaVintB
import Derived.Test.YteceghhjpejdnaaVintC
import Derived.Lib.VarintBits
import Derived.Laws.BytesArg
import Derived.Deep.RegionHeld3
namespace Go.Proofs.Yteceghhjpejdnaa.VintD
open Go.RowKit Base Slices Quiet VintA VintB VintC
set_option linter.unusedVariables false
set_option linter.unusedSimpArgs false

theorem and127 : ∀ x < 256, x &&& 127 = x % 128 := by decide +kernel
theorem andn (x : Int) (h0 : 0 ≤ x) (h1 : x ≤ 255) : bits .andNot .u8 x 128 = ((x.toNat % 128 : Nat) : Int) := by
  rw [u8_andNot x 128 h0 (by omega) (by decide) (by decide), show 255 - (128 : Int).toNat = 127 by decide, and127 _ (by omega)]
theorem step_bits (j V : Nat) (x : Int) (hj : j < 10) (hV : V < 128 ^ j) (h0 : 0 ≤ x) (h1 : x ≤ 255) :
    bits .or .u64 (V : Int) (IntKind.u64.wrap (IntKind.u64.wrap (bits .andNot .u8 x 128) * 2 ^ (7 * j))) = (((V + 128 ^ j * (x.toNat % 128)) % 18446744073709551616 : Nat) : Int) := by
  rw [andn x h0 h1, VintB.wrap64u, VintB.wrap64u]
  have ha : x.toNat % 128 < 128 := Nat.mod_lt _ (by decide)
  generalize x.toNat % 128 = a at *
  have hc : j = 0 ∨ j = 1 ∨ j = 2 ∨ j = 3 ∨ j = 4 ∨ j = 5 ∨ j = 6 ∨ j = 7 ∨ j = 8 ∨ j = 9 := by omega
  clear h0 h1 hj
  rcases hc with rfl | rfl | rfl | rfl | rfl | rfl | rfl | rfl | rfl | rfl
  · simp only [Nat.reduceMul, Int.reducePow, Nat.reducePow] at *
    rw [u64_orv0 _ _ (by omega) (by omega) (by omega) (by omega) (by omega)]
    omega
  · simp only [Nat.reduceMul, Int.reducePow, Nat.reducePow] at *
    rw [u64_orv7 _ _ (by omega) (by omega) (by omega) (by omega) (by omega)]
    omega
  · simp only [Nat.reduceMul, Int.reducePow, Nat.reducePow] at *
    rw [u64_orv14 _ _ (by omega) (by omega) (by omega) (by omega) (by omega)]
    omega
  · simp only [Nat.reduceMul, Int.reducePow, Nat.reducePow] at *
    rw [u64_orv21 _ _ (by omega) (by omega) (by omega) (by omega) (by omega)]
    omega
  · simp only [Nat.reduceMul, Int.reducePow, Nat.reducePow] at *
    rw [u64_orv28 _ _ (by omega) (by omega) (by omega) (by omega) (by omega)]
    omega
  · simp only [Nat.reduceMul, Int.reducePow, Nat.reducePow] at *
    rw [u64_orv35 _ _ (by omega) (by omega) (by omega) (by omega) (by omega)]
    omega
  · simp only [Nat.reduceMul, Int.reducePow, Nat.reducePow] at *
    rw [u64_orv42 _ _ (by omega) (by omega) (by omega) (by omega) (by omega)]
    omega
  · simp only [Nat.reduceMul, Int.reducePow, Nat.reducePow] at *
    rw [u64_orv49 _ _ (by omega) (by omega) (by omega) (by omega) (by omega)]
    omega
  · simp only [Nat.reduceMul, Int.reducePow, Nat.reducePow] at *
    rw [u64_orv56 _ _ (by omega) (by omega) (by omega) (by omega) (by omega)]
    omega
  · simp only [Nat.reduceMul, Int.reducePow, Nat.reducePow] at *
    rw [u64_orv63 _ _ (by omega) (by omega) (by omega) (by omega) (by omega)]
    omega
theorem xor_comm64 (a b : Int) : bits .xor .i64 a b = bits .xor .i64 b a := by
  show IntKind.i64.wrap ((BitVec.ofInt 64 a ^^^ BitVec.ofInt 64 b).toNat : Int) = IntKind.i64.wrap ((BitVec.ofInt 64 b ^^^ BitVec.ofInt 64 a).toNat : Int)
  rw [BitVec.xor_comm]
theorem xor_zero64 (n : Nat) (h : n < 9223372036854775808) : bits .xor .i64 (n : Int) 0 = n := by
  show IntKind.i64.wrap ((BitVec.ofInt 64 (n : Int) ^^^ BitVec.ofInt 64 0).toNat : Int) = _
  have h2 : (BitVec.ofInt 64 (n : Int)).toNat = n := by rw [BitVec.ofInt_natCast, BitVec.toNat_ofNat]; exact Nat.mod_eq_of_lt (by omega)
  have h3 : (BitVec.ofInt 64 0).toNat = 0 := by decide
  rw [BitVec.toNat_xor, h2, h3, Nat.xor_zero, IntKind.wrap_i64]
  omega
theorem unfold_bits (z : Nat) (hz : z < 18446744073709551616) : bits .xor .i64 ((z : Int) / 2) (wrap64 (-wrap64 (bits .and .u64 (z : Int) 1))) = unfold_ z := by
  rw [Lib.u64_and1 _ (by omega) (by omega)]
  have e : ((z : Int) / 2) = ((z / 2 : Nat) : Int) := by omega
  rw [e]
  by_cases h : z % 2 = 0
  · have e2 : wrap64 (-wrap64 ((z : Int) % 2)) = 0 := by rw [show (z : Int) % 2 = 0 by omega]; unfold wrap64; omega
    rw [e2, xor_zero64 _ (by omega)]
    unfold unfold_
    rw [if_pos h]
  · have e2 : wrap64 (-wrap64 ((z : Int) % 2)) = -1 := by rw [show (z : Int) % 2 = 1 by omega]; unfold wrap64; omega
    rw [e2, xor_comm64, Lib.i64_not _ (by omega)]
    unfold unfold_
    rw [if_neg h]

theorem wr1 (j : Nat) (h : j < 10) : IntKind.i64.wrap ((j : Int) + 1) = (j : Int) + 1 := by rw [IntKind.wrap_i64]; omega
theorem wr2 (j : Nat) (h : j < 10) : wrap64 ((j : Int) + 1) = (j : Int) + 1 := by unfold wrap64; omega
theorem wr3 (j : Nat) : ((j : Int) + 1).toNat = j + 1 := by omega

/-- what read tells of bytes -/
def Reads (b : List Int) (e : Ending) : Prop := (∃ z, Begins b z ∧ e = .returned (.tuple #[.int .i64 (unfold_ z), .int .i64 ((vint z).length : Nat)])) ∨ ((∀ z, ¬ Begins b z) ∧ e = .returned (.tuple #[.int .i64 0, .int .i64 0]))
def Bytes (b : List Int) : Prop := ∀ x ∈ b, 0 ≤ x ∧ x ≤ 255
theorem vint_bytes (z : Nat) : Bytes (vint z) := vint_byte z
theorem Bytes.take {b : List Int} (h : Bytes b) (k : Nat) : Bytes (b.take k) := fun x hx => h x (List.mem_of_mem_take hx)
theorem Bytes.drop {b : List Int} (h : Bytes b) (k : Nat) : Bytes (b.drop k) := fun x hx => h x (List.mem_of_mem_drop hx)

theorem str_inj {l m : List Int} (hl : Bytes l) (hm : Bytes m) (h : strOfNums l = strOfNums m) : l = m := by
  have h1 := congrArg (fun s => s.data.toList) h
  simp only [strOfNums_data] at h1
  clear h
  induction l generalizing m with
  | nil => cases m with
    | nil => rfl
    | cons y m => simp at h1
  | cons x l ih => cases m with
    | nil => simp at h1
    | cons y m =>
      simp only [List.map_cons, List.cons.injEq] at h1
      obtain ⟨e, h2⟩ := h1
      have hx := hl x (by simp)
      have hy := hm y (by simp)
      have e2 := congrArg UInt8.toNat e
      rw [UInt8.toNat_ofNat', UInt8.toNat_ofNat'] at e2
      have : x = y := by omega
      rw [this, ih (fun b hb => hl b (by simp [hb])) (fun b hb => hm b (by simp [hb])) h2]
/-- what '==' of two strings of bytes tells -/
theorem str_dec {l m : List Int} (hl : Bytes l) (hm : Bytes m) : ((strOfNums l).toList == (strOfNums m).toList) = decide (l = m) := by
  by_cases h : l = m
  · subst h
    rw [decide_eq_true rfl]
    exact beq_self_eq_true _
  · rw [decide_eq_false h, beq_eq_false_iff_ne]
    intro he
    rw [ByteArray.toList_eq, ByteArray.toList_eq] at he
    refine h (str_inj hl hm ?_)
    unfold strOfNums at he ⊢
    simpa using he

section
variable (w : World)
theorem unfold_range {z : Nat} (hz : z < 18446744073709551616) : -9223372036854775808 ≤ unfold_ z ∧ unfold_ z ≤ 9223372036854775807 := by
  unfold unfold_
  split <;> omega

end
end Go.Proofs.Yteceghhjpejdnaa.VintD
