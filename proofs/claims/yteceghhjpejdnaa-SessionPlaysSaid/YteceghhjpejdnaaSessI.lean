/- Chapter 32: the walk of lives. -/
import Derived.Test.YteceghhjpejdnaaSessH
namespace Go.Proofs.Yteceghhjpejdnaa.SessI
open Go.RowKit Base Big Slices TrapA TrapB TrapG CodecA CodecB CodecC CodecK SessA SessB SessC SessD SessE SessF SessG SessH
set_option linter.unusedVariables false
set_option linter.unusedSimpArgs false

section
variable (w : World)
theorem lives_true : Calls Try.prog 8 #[] w fun e w' => e = .returned (.bool true) ∧ Fr Nil w w' := by
  have K1 := Lib.hid (New_ok w 1 (by decide) (by decide))
  have K2 : Hid (∀ W g, Ss W g 0 zQ 0 1 → Calls Try.prog 7 #[.pointer (some ⟨g, 0, none⟩), .agg #[.int .i64 2, .int .i64 0, .int .i64 0, .int .i64 0, .int .i64 0, .int .i64 0, .int .i64 0, .int .i64 0, .int .i64 5, .int .i64 0, .int .i64 0, .int .i64 0, .int .i64 0, .int .i64 0, .int .i64 0, .int .i64 0, .int .i64 0, .int .i64 0]] W fun e w' => e = .returned (.int .i64 0) ∧ Fr (fun k => k = g) W w' ∧ Ss w' g 1 (onlyQ (⟨2, 0, 0, 0, 0, 0, 0, 0, 5, 0, 0, 0, 0, 0, 0, 0, 0, 0⟩ : Rq)) 0 1) := Lib.hid (fun W g h => Start_ok W (r := (⟨2, 0, 0, 0, 0, 0, 0, 0, 5, 0, 0, 0, 0, 0, 0, 0, 0, 0⟩ : Rq)) h (Or.inr ⟨rfl, by decide, by decide⟩))
  have K3 := Lib.hid (fun W g p r t (h : Ss W g p r t 1) => Phase_any W h)
  have K4 : Hid (∀ W g r, Ss W g 1 r 0 1 → Calls Try.prog 11 #[.pointer (some ⟨g, 0, none⟩)] W fun e w' => e = .returned (.int .i64 0) ∧ Fr (fun k => k = g) W w' ∧ Ss w' g 2 r (0 + 1) 1) := Lib.hid (fun W g r h => Fail_ok W h (by decide) (by decide))
  go_enter Try.func8, Try.ntmps8
  go_wp2_with fail
  refine K1.out.mono ?_
  rintro e w1 ⟨rfl, hf1, hs1⟩
  have HF1 := Lib.hid hf1
  have HS1 := Lib.hid hs1
  clear hf1 hs1
  go_wp2_with fail
  refine (K2.out _ _ HS1.out).mono ?_
  rintro e w2 ⟨rfl, hf2, hs2⟩
  have HF2 := Lib.hid (HF1.out.then hf2 (fun k hk hlt => by omega))
  have HS2 := Lib.hid hs2
  clear hf2 hs2
  go_wp2_with fail
  refine (K3.out _ _ _ _ _ HS2.out).mono ?_
  rintro e w3 ⟨rfl, hf3⟩
  have HF3 := Lib.hid (HF2.out.trans hf3)
  have HS3 := Lib.hid (Bk.fr HS2.out hf3 id)
  clear hf3
  go_wp2_with fail
  refine (K4.out _ _ _ HS3.out).mono ?_
  rintro e w4 ⟨rfl, hf4, hs4⟩
  have HF4 := Lib.hid (HF3.out.then hf4 (fun k hk hlt => by omega))
  have HS4 := Lib.hid hs4
  clear hf4 hs4
  go_wp2_with fail
  refine (K3.out _ _ _ _ _ HS4.out).mono ?_
  rintro e w5 ⟨rfl, hf5⟩
  have HF5 := Lib.hid (HF4.out.trans hf5)
  clear hf5
  go_wp2_with fail
  go_ret
  exact ⟨rfl, HF5.out⟩
end
end Go.Proofs.Yteceghhjpejdnaa.SessI
