/- Chapter 32: the walk of start, where it throws. -/
import Derived.Test.YteceghhjpejdnaaSessF
namespace Go.Proofs.Yteceghhjpejdnaa.SessG
open Go.RowKit Base Big Slices TrapA TrapB TrapG CodecA CodecB CodecC CodecK SessA SessB SessD SessE
set_option linter.unusedVariables false
set_option linter.unusedSimpArgs false

section
variable (w : World)
theorem start_gone {g : Nat} {p : Int} {r q : Rq} {t b : Int} (hB : Ss w g p q t b) (hp : p ∉ [0, 1, 2, 3]) : Calls Try.prog 19 #[.pointer (some ⟨g, 0, none⟩), .agg (qc r)] w fun e w' => e = .panicked [fault p 10] ∧ Fr Nil w w' := by
  have HS0 := Lib.hid ((hB.alloc (.cells (qc r) 40)).alloc (.cells #[.int .i64 0, .int .i64 1, .int .i64 2, .int .i64 3] 42))
  have G0 := Lib.hid (((Fr.refl Nil w).alloc (.cells (qc r) 40)).alloc (.cells #[.int .i64 0, .int .i64 1, .int .i64 2, .int .i64 3] 42))
  have KI := Lib.hid (in_bad ((w.alloc (.cells (qc r) 40)).alloc (.cells #[.int .i64 0, .int .i64 1, .int .i64 2, .int .i64 3] 42)) (c := 10) (by decide) (w.heap.size + 1) 4 [0, 1, 2, 3] HS0.out (lit_sl EP_ok [0, 1, 2, 3] rfl (by simp) _) rfl (by decide) hp)
  clear hB hp
  go_enter Try.func19, Try.ntmps19
  go_wp2_with fail
  refine KI.out.mono ?_
  rintro e w1 ⟨rfl, hf1⟩
  exact ⟨rfl, rfl, G0.out.trans hf1⟩
theorem start_form {g : Nat} {p : Int} {r q : Rq} {t b : Int} (hB : Ss w g p q t b) (hp : p ∈ [0, 1, 2, 3]) (hgr : ¬ GoodQ r) : Calls Try.prog 19 #[.pointer (some ⟨g, 0, none⟩), .agg (qc r)] w fun e w' => e = .panicked [fault 0 8] ∧ Fr Nil w w' := by
  have HR0 := Lib.hid ((Bk.new w 40 (qc r)).alloc (.cells #[.int .i64 0, .int .i64 1, .int .i64 2, .int .i64 3] 42))
  have HS0 := Lib.hid ((hB.alloc (.cells (qc r) 40)).alloc (.cells #[.int .i64 0, .int .i64 1, .int .i64 2, .int .i64 3] 42))
  have G0 := Lib.hid (((Fr.refl Nil w).alloc (.cells (qc r) 40)).alloc (.cells #[.int .i64 0, .int .i64 1, .int .i64 2, .int .i64 3] 42))
  have KI := Lib.hid (in_ok ((w.alloc (.cells (qc r) 40)).alloc (.cells #[.int .i64 0, .int .i64 1, .int .i64 2, .int .i64 3] 42)) (c := 10) (w.heap.size + 1) 4 [0, 1, 2, 3] HS0.out (lit_sl EP_ok [0, 1, 2, 3] rfl (by simp) _) rfl (by decide) hp)
  have KG := Lib.hid (fun W => (Good_any W r).mono fun e w' h => (show e = .returned (.bool false) ∧ Fr Nil W w' by
    obtain ⟨⟨bb, rfl, hb⟩, hf⟩ := h
    refine ⟨?_, hf⟩
    cases bb with
    | true => exact absurd (hb.1 rfl) hgr
    | false => rfl))
  have KT := Lib.hid (fun W => Throw_bad 0 8 (by decide) W)
  clear hB hp hgr
  go_enter Try.func19, Try.ntmps19
  go_wp2_with fail
  refine KI.out.mono ?_
  rintro e w1 ⟨rfl, hf1⟩
  have HR1 := Lib.hid (HR0.out.fr hf1 id)
  have HF1 := Lib.hid (G0.out.trans hf1)
  clear hf1 HR0 HS0 G0 KI
  go_wp2_with (first
    | (with_reducible refine wpList_loadQ (dst := some 7) ?_ HR1.out ?_); rfl)
  refine (KG.out _).mono ?_
  rintro e w2 ⟨rfl, hf2⟩
  have HF2 := Lib.hid (HF1.out.trans hf2)
  clear hf2
  go_wp2_with fail
  refine (KT.out _).mono ?_
  rintro e w3 ⟨rfl, rfl⟩
  exact ⟨rfl, rfl, HF2.out⟩
theorem start_busy {g : Nat} {p : Int} {r q : Rq} {t b : Int} (hB : Ss w g p q t b) (hp : p ∈ [0, 1, 2, 3]) (hp0 : p ≠ 0) (hgr : GoodQ r) : Calls Try.prog 19 #[.pointer (some ⟨g, 0, none⟩), .agg (qc r)] w fun e w' => e = .panicked [fault p 7] ∧ Fr Nil w w' := by
  have HR0 := Lib.hid ((Bk.new w 40 (qc r)).alloc (.cells #[.int .i64 0, .int .i64 1, .int .i64 2, .int .i64 3] 42))
  have HS0 := Lib.hid ((hB.alloc (.cells (qc r) 40)).alloc (.cells #[.int .i64 0, .int .i64 1, .int .i64 2, .int .i64 3] 42))
  have G0 := Lib.hid (((Fr.refl Nil w).alloc (.cells (qc r) 40)).alloc (.cells #[.int .i64 0, .int .i64 1, .int .i64 2, .int .i64 3] 42))
  have KI := Lib.hid (in_ok ((w.alloc (.cells (qc r) 40)).alloc (.cells #[.int .i64 0, .int .i64 1, .int .i64 2, .int .i64 3] 42)) (c := 10) (w.heap.size + 1) 4 [0, 1, 2, 3] HS0.out (lit_sl EP_ok [0, 1, 2, 3] rfl (by simp) _) rfl (by decide) hp)
  have KG := Lib.hid (fun W => (Good_any W r).mono fun e w' h => (show e = .returned (.bool true) ∧ Fr Nil W w' by
    obtain ⟨⟨bb, rfl, hb⟩, hf⟩ := h
    refine ⟨?_, hf⟩
    cases bb with
    | true => rfl
    | false => exact absurd (hb.2 hgr) (by simp)))
  have KI2 := Lib.hid (fun W (h : Ss W g p q t b) => in_bad (W.alloc (.cells #[.int .i64 0] 42)) (c := 7) (by decide) W.heap.size 1 [0] (Bk.alloc h _) (lit_sl EP_ok [0] rfl rfl _) rfl (by decide) (by simpa using hp0))
  clear hB hp hp0 hgr
  go_enter Try.func19, Try.ntmps19
  go_wp2_with fail
  refine KI.out.mono ?_
  rintro e w1 ⟨rfl, hf1⟩
  have HR1 := Lib.hid (HR0.out.fr hf1 id)
  have HS1 := Lib.hid (HS0.out.fr hf1 id)
  have HF1 := Lib.hid (G0.out.trans hf1)
  clear hf1 HR0 HS0 G0 KI
  go_wp2_with (first
    | (with_reducible refine wpList_loadQ (dst := some 7) ?_ HR1.out ?_); rfl)
  refine (KG.out _).mono ?_
  rintro e w2 ⟨rfl, hf2⟩
  have HS2 := Lib.hid (HS1.out.fr hf2 id)
  have HF2 := Lib.hid (HF1.out.trans hf2)
  clear hf2
  go_wp2_with fail
  refine (KI2.out _ HS2.out).mono ?_
  rintro e w3 ⟨rfl, hf3⟩
  exact ⟨rfl, rfl, (HF2.out.alloc _).trans hf3⟩
end
end Go.Proofs.Yteceghhjpejdnaa.SessG
