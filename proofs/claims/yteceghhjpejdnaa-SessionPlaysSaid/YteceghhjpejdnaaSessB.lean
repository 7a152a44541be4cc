/- Chapter 32: the walks of fail, grant. -/
import Derived.Test.YteceghhjpejdnaaSessA
import Derived.BigQuiet
namespace Go.Proofs.Yteceghhjpejdnaa.SessB
open Go.RowKit Base Big Slices TrapA TrapB TrapG CodecA CodecB CodecC CodecK SessA
set_option linter.unusedVariables false
set_option linter.unusedSimpArgs false

/-- the phase behind a fail -/
def fphase (t b : Int) : Int := if b ≤ t + 1 then 2 else 1
theorem Ss.tries {w : World} {g : Nat} {p : Int} {r : Rq} {t b : Int} (h : Ss w g p r t b) (n : Int) : Ss (w.setCell ⟨g, 19, none⟩ (.int .i64 n)) g p r n b := Bk.put h 19 _
theorem Ss.phase {w : World} {g : Nat} {p : Int} {r : Rq} {t b : Int} (h : Ss w g p r t b) (n : Int) : Ss (w.setCell ⟨g, 0, none⟩ (.int .i64 n)) g n r t b := Bk.put h 0 _

section
variable (w : World)
theorem fail_ok {g : Nat} {r : Rq} {t b : Int} (hB : Ss w g 1 r t b) (h0 : 0 ≤ t) (h1 : t ≤ 100000) : Calls Try.prog 20 #[.pointer (some ⟨g, 0, none⟩)] w fun e w' => e = .returned (.tuple #[]) ∧ Fr (fun k => k = g) w w' ∧ Ss w' g (fphase t b) r (t + 1) b := by
  have KI := Lib.hid (in_ok (w.alloc (.cells #[.int .i64 1] 42)) (c := 10) w.heap.size 1 [1] (hB.alloc _) (lit_sl EP_ok [1] rfl rfl _) rfl (by decide) (by simp))
  have HB := Lib.hid (hB.alloc (.cells #[.int .i64 1] 42))
  have G0 := Lib.hid ((Fr.refl Nil w).alloc (.cells #[.int .i64 1] 42))
  have hg := hB.lt
  clear hB
  by_cases hb : b ≤ t + 1
  · unfold fphase
    rw [if_pos hb]
    go_enter Try.func20, Try.ntmps20
    go_wp2_with fail
    refine KI.out.mono ?_
    rintro e w1 ⟨rfl, hf⟩
    have HB1 := Lib.hid (HB.out.fr hf id)
    have HF1 := Lib.hid (G0.out.trans hf)
    have c0 : w1.cell? ⟨g, 0, none⟩ = some (.int .i64 1) := HB1.out.cell 0
    have c19 : w1.cell? ⟨g, 19, none⟩ = some (.int .i64 t) := HB1.out.cell 19
    have c20 : w1.cell? ⟨g, 20, none⟩ = some (.int .i64 b) := HB1.out.cell 20
    have f0 : w1.frozen? ⟨g, 0, none⟩ = false := HB1.out.frozen 0
    have f19 : w1.frozen? ⟨g, 19, none⟩ = false := HB1.out.frozen 19
    clear hf
    go_wp2_with fail
    go_quiet (fail)
    go_wp2_with fail
    go_end0
    exact ⟨rfl, Fr.setCell (S := fun k => k = g) (Fr.drewN (Fr.setCell (S := fun k => k = g) HF1.out.of_nil (fun _ => rfl) _) _) (fun _ => rfl) _, Ss.phase (Bk.drewN (Ss.tries HB1.out _) _) 2⟩
  · unfold fphase
    rw [if_neg hb]
    go_enter Try.func20, Try.ntmps20
    go_wp2_with fail
    refine KI.out.mono ?_
    rintro e w1 ⟨rfl, hf⟩
    have HB1 := Lib.hid (HB.out.fr hf id)
    have HF1 := Lib.hid (G0.out.trans hf)
    have c0 : w1.cell? ⟨g, 0, none⟩ = some (.int .i64 1) := HB1.out.cell 0
    have c19 : w1.cell? ⟨g, 19, none⟩ = some (.int .i64 t) := HB1.out.cell 19
    have c20 : w1.cell? ⟨g, 20, none⟩ = some (.int .i64 b) := HB1.out.cell 20
    have f0 : w1.frozen? ⟨g, 0, none⟩ = false := HB1.out.frozen 0
    have f19 : w1.frozen? ⟨g, 19, none⟩ = false := HB1.out.frozen 19
    clear hf
    go_wp2_with fail
    go_quiet (fail)
    go_wp2_with fail
    go_end0
    exact ⟨rfl, Fr.drewN (Fr.setCell (S := fun k => k = g) HF1.out.of_nil (fun _ => rfl) _) _, Bk.drewN (Ss.tries HB1.out _) _⟩
theorem fail_bad {g : Nat} {p : Int} {r : Rq} {t b : Int} (hB : Ss w g p r t b) (hp : p ≠ 1) : Calls Try.prog 20 #[.pointer (some ⟨g, 0, none⟩)] w fun e w' => e = .panicked [fault p 10] ∧ Fr Nil w w' := by
  have KI := Lib.hid (in_bad (w.alloc (.cells #[.int .i64 1] 42)) (c := 10) (by decide) w.heap.size 1 [1] (hB.alloc _) (lit_sl EP_ok [1] rfl rfl _) rfl (by decide) (by simpa using hp))
  have G0 := Lib.hid ((Fr.refl Nil w).alloc (.cells #[.int .i64 1] 42))
  clear hB hp
  go_enter Try.func20, Try.ntmps20
  go_wp2_with fail
  refine KI.out.mono ?_
  rintro e w1 ⟨rfl, hf⟩
  exact ⟨rfl, rfl, G0.out.trans hf⟩
theorem grant_ok {g : Nat} {r : Rq} {t b : Int} (hB : Ss w g 2 r t b) : Calls Try.prog 35 #[.pointer (some ⟨g, 0, none⟩)] w fun e w' => e = .returned (.tuple #[]) ∧ Fr (fun k => k = g) w w' ∧ Ss w' g 3 r t b := by
  have KI := Lib.hid (in_ok (w.alloc (.cells #[.int .i64 2] 42)) (c := 10) w.heap.size 1 [2] (hB.alloc _) (lit_sl EP_ok [2] rfl rfl _) rfl (by decide) (by simp))
  have HB := Lib.hid (hB.alloc (.cells #[.int .i64 2] 42))
  have G0 := Lib.hid ((Fr.refl Nil w).alloc (.cells #[.int .i64 2] 42))
  clear hB
  go_enter Try.func35, Try.ntmps35
  go_wp2_with fail
  refine KI.out.mono ?_
  rintro e w1 ⟨rfl, hf⟩
  have HB1 := Lib.hid (HB.out.fr hf id)
  have HF1 := Lib.hid (G0.out.trans hf)
  have c0 : w1.cell? ⟨g, 0, none⟩ = some (.int .i64 2) := HB1.out.cell 0
  have f0 : w1.frozen? ⟨g, 0, none⟩ = false := HB1.out.frozen 0
  clear hf
  go_wp2_with fail
  go_end0
  exact ⟨rfl, Fr.setCell (S := fun k => k = g) HF1.out.of_nil (fun _ => rfl) _, Ss.phase HB1.out 3⟩
theorem grant_bad {g : Nat} {p : Int} {r : Rq} {t b : Int} (hB : Ss w g p r t b) (hp : p ≠ 2) : Calls Try.prog 35 #[.pointer (some ⟨g, 0, none⟩)] w fun e w' => e = .panicked [fault p 10] ∧ Fr Nil w w' := by
  have KI := Lib.hid (in_bad (w.alloc (.cells #[.int .i64 2] 42)) (c := 10) (by decide) w.heap.size 1 [2] (hB.alloc _) (lit_sl EP_ok [2] rfl rfl _) rfl (by decide) (by simpa using hp))
  have G0 := Lib.hid ((Fr.refl Nil w).alloc (.cells #[.int .i64 2] 42))
  clear hB hp
  go_enter Try.func35, Try.ntmps35
  go_wp2_with fail
  refine KI.out.mono ?_
  rintro e w1 ⟨rfl, hf⟩
  exact ⟨rfl, rfl, G0.out.trans hf⟩
end
end Go.Proofs.Yteceghhjpejdnaa.SessB
