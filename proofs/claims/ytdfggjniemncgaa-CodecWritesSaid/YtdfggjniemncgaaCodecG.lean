/- Chapter 29: the walk of lives. -/
import Derived.Test.YtdfggjniemncgaaCodecB
import Derived.Test.YtdfggjniemncgaaCodecF
namespace Go.Proofs.Ytdfggjniemncgaa.CodecG
open Go.RowKit Base Big Slices VintA VintB VintC VintD CodecA CodecB TrapA TrapB TrapG CodecC CodecE CodecF Quiet
open CodecD (next rd dec next_some next_none next_of next_len rd_none rd_some)
set_option linter.unusedVariables false
set_option linter.unusedSimpArgs false

theorem next_low {z : Nat} {r : List Int} (h : z < 128) : next ((z : Int) :: r) = some z := next_some ⟨by omega, r, by rw [vint_low h]; rfl⟩
theorem lives_good : GoodQ (⟨1, 1, 1, 2, -1, 0, 0, 0, 0, 0, 0, 0, 0, 0, 0, 0, 0, 0⟩ : Rq) := Or.inl ⟨rfl, by decide, by decide⟩
theorem lives_long : Long (⟨1, 1, 1, 2, -1, 0, 0, 0, 0, 0, 0, 0, 0, 0, 0, 0, 0, 0⟩ : Rq) := by
  intro n hn
  simp [qi] at hn
  omega
theorem lives_enc : encB (⟨1, 1, 1, 2, -1, 0, 0, 0, 0, 0, 0, 0, 0, 0, 0, 0, 0, 0⟩ : Rq) = [1, 2, 4, 1] := by
  simp [encB, kb, body, offs, num, qi, fold, vint_low]
theorem lives_dec : dec [1, 2, 4, 1] = .ok (⟨1, 1, 1, 2, -1, 0, 0, 0, 0, 0, 0, 0, 0, 0, 0, 0, 0, 0⟩ : Rq) := by
  have h2 : next [2, 4, 1] = some 2 := next_low (z := 2) (r := [4, 1]) (by decide)
  have h4 : next [4, 1] = some 4 := next_low (z := 4) (r := [1]) (by decide)
  have h1 : next [1] = some 1 := next_low (z := 1) (r := []) (by decide)
  have hk : kq 1 = ⟨1, 1, 0, 0, 0, 0, 0, 0, 0, 0, 0, 0, 0, 0, 0, 0, 0, 0⟩ := by simp [kq]
  have hg : GoodQ (kq 1) := by rw [hk]; exact Or.inl ⟨rfl, by decide, by decide⟩
  have ho : offs (⟨1, 1, 0, 0, 0, 0, 0, 0, 0, 0, 0, 0, 0, 0, 0, 0, 0, 0⟩ : Rq) = [2, 3, 4] := by simp [offs]
  simp only [dec, if_pos hg, hk, ho]
  rw [rd_some h2, vint_low (by decide)]
  simp only [List.length_singleton, List.drop_succ_cons, List.drop_zero]
  rw [rd_some h4, vint_low (by decide)]
  simp only [List.length_singleton, List.drop_succ_cons, List.drop_zero]
  rw [rd_some h1, vint_low (by decide)]
  simp only [List.length_singleton, List.drop_succ_cons, List.drop_zero, rd, if_true]
  rfl

section
variable (w : World)
theorem lives_true : Calls Try.prog 10 #[] w fun e w' => e = .returned (.bool true) ∧ Fr Nil w w' := by
  have K1 : Hid (Calls Try.prog 15 #[.agg #[.int .i64 1, .int .i64 1, .int .i64 1, .int .i64 2, .int .i64 (-1), .int .i64 0, .int .i64 0, .int .i64 0, .int .i64 0, .int .i64 0, .int .i64 0, .int .i64 0, .int .i64 0, .int .i64 0, .int .i64 0, .int .i64 0, .int .i64 0, .int .i64 0]] w fun e w' => ∃ u, e = .returned (.tuple #[u, .int .i64 0]) ∧ Fr Nil w w' ∧ Own EB w' w.heap.size u [1, 2, 4, 1]) := Lib.hid (by
    have := Encode_ok w (⟨1, 1, 1, 2, -1, 0, 0, 0, 0, 0, 0, 0, 0, 0, 0, 0, 0, 0⟩ : Rq) lives_good lives_long
    rw [lives_enc] at this
    exact this)
  have KD := Lib.hid (fun (W : World) => Decode_ok (b := [1, 2, 4, 1]) (r := (⟨1, 1, 1, 2, -1, 0, 0, 0, 0, 0, 0, 0, 0, 0, 0, 0, 0, 0⟩ : Rq)) (W.alloc (.cells #[.int .u8 1, .int .u8 2, .int .u8 4, .int .u8 1] 5)) (v := .slice (some ⟨W.heap.size, 0, none⟩) 4 4) (by decide) (by unfold Bytes; decide) (lit_sl EB_ok [1, 2, 4, 1] rfl rfl _) lives_dec)
  have hS : strOfNums [1, 2, 4, 1] = ⟨#[1, 2, 4, 1]⟩ := by decide +kernel
  have KC := Lib.hid (fun W u (h : Come EB W u [1, 2, 4, 1]) => conv_any W h)
  rw [hS] at KC
  clear hS
  go_enter Try.func10, Try.ntmps10
  go_wp2_with fail
  refine K1.out.mono ?_
  rintro e w1 ⟨u, rfl, hf1, ho⟩
  have HU := Lib.hid (ho.sl EB_ok).come
  have HUL := Lib.hid (fun k hk => (ho.lt k hk).2)
  have HF := Lib.hid hf1
  clear hf1 ho
  go_wp2_with fail
  refine (KD.out _).mono ?_
  rintro e w2 ⟨rfl, hf2⟩
  have HU2 := Lib.hid ((HU.out.fr ((Fr.refl Nil w1).alloc _)).fr hf2)
  have HF2 := Lib.hid ((HF.out.alloc _).trans hf2)
  have HB2 := Lib.hid (Bk.new w2 36 #[.int .i64 0, .int .i64 0, .int .i64 0, .int .i64 0, .int .i64 0, .int .i64 0, .int .i64 0, .int .i64 0, .int .i64 0, .int .i64 0, .int .i64 0, .int .i64 0, .int .i64 0, .int .i64 0, .int .i64 0, .int .i64 0, .int .i64 0, .int .i64 0])
  have HS2 := Lib.hid (show w1.heap.size ≤ w2.heap.size by have := hf2.size; simp at this; omega)
  clear hf2
  go_wp2_with (first
    | (with_reducible refine wpList_storeQ (x := .tmp 3) (y := .tmp 15) (q := (⟨1, 1, 1, 2, -1, 0, 0, 0, 0, 0, 0, 0, 0, 0, 0, 0, 0, 0⟩ : Rq)) ?_ ?_ HB2.out ?_ ?_); rfl; rfl; rfl; intro w3 hb3 hf3; have hcv := KC.out w3 u ((HU2.out.fr ((Fr.refl Nil w2).alloc _)).frS hf3 (fun k hk hs => by have := HUL.out k hk; have := HS2.out; omega)); have c4 : w3.cell? ⟨w2.heap.size, 4, none⟩ = some (.int .i64 (-1)) := hb3.cell 4; have HF3 := Lib.hid ((HF2.out.alloc (.cells #[.int .i64 0, .int .i64 0, .int .i64 0, .int .i64 0, .int .i64 0, .int .i64 0, .int .i64 0, .int .i64 0, .int .i64 0, .int .i64 0, .int .i64 0, .int .i64 0, .int .i64 0, .int .i64 0, .int .i64 0, .int .i64 0, .int .i64 0, .int .i64 0] 36)).then hf3 (fun k hk hlt => by have := HF2.out.size; omega)); clear hb3 hf3)
  go_ret
  exact ⟨rfl, HF3.out⟩
end
end Go.Proofs.Ytdfggjniemncgaa.CodecG
