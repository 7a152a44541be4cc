/- Chapter 32: the walk of Start. -/
import Derived.Test.YteceghhjpejdnaaSessG
namespace Go.Proofs.Yteceghhjpejdnaa.SessH
open Go.RowKit Base Big Slices TrapA TrapB TrapG CodecA CodecB CodecC CodecK SessA SessB SessC SessD SessE SessF SessG
set_option linter.unusedVariables false
set_option linter.unusedSimpArgs false

theorem enters_s1 : Enters 18 := fun args w => by simp [go_sem]
section
variable (w : World)
theorem s1_ok {m1 m2 g : Nat} {r : Rq} {R : World → Prop} (h1 : Bk w m1 28 #[.pointer (some ⟨g, 0, none⟩)]) (h2 : Bk w m2 40 (qc r)) (h : Calls Try.prog 19 #[.pointer (some ⟨g, 0, none⟩), .agg (qc r)] w fun e w' => e = .returned (.tuple #[]) ∧ R w') :
    Calls Try.prog 18 #[.pointer (some ⟨m1, 0, none⟩), .pointer (some ⟨m2, 0, none⟩)] w fun e w' => e = .returned (.tuple #[]) ∧ R w' := by
  have K := Lib.hid h
  have H2 := Lib.hid h2
  obtain ⟨c1, f1⟩ := h1.c1
  clear h h1 h2
  go_enter Try.func18, Try.ntmps18
  go_wp2_with (first
    | (with_reducible refine wpList_loadQ (dst := some 3) ?_ H2.out ?_); rfl)
  refine K.out.mono ?_
  rintro e w1 ⟨rfl, hr⟩
  have HR := Lib.hid hr
  clear hr
  go_wp2_with fail
  go_end0
  exact ⟨rfl, HR.out⟩
theorem s1_bad {m1 m2 g : Nat} {r : Rq} {x c : Int} (h1 : Bk w m1 28 #[.pointer (some ⟨g, 0, none⟩)]) (h2 : Bk w m2 40 (qc r)) (h : Calls Try.prog 19 #[.pointer (some ⟨g, 0, none⟩), .agg (qc r)] w fun e w' => e = .panicked [fault x c] ∧ Fr Nil w w') :
    Calls Try.prog 18 #[.pointer (some ⟨m1, 0, none⟩), .pointer (some ⟨m2, 0, none⟩)] w fun e w' => e = .panicked [fault x c] ∧ Fr Nil w w' := by
  have K := Lib.hid h
  have H2 := Lib.hid h2
  obtain ⟨c1, f1⟩ := h1.c1
  clear h h1 h2
  go_enter Try.func18, Try.ntmps18
  go_wp2_with (first
    | (with_reducible refine wpList_loadQ (dst := some 3) ?_ H2.out ?_); rfl)
  refine K.out.mono ?_
  rintro e w1 ⟨rfl, hr⟩
  exact ⟨rfl, rfl, hr⟩
theorem Start_ok {g : Nat} {r q : Rq} {t b : Int} (hB : Ss w g 0 q t b) (hgr : GoodQ r) : Calls Try.prog 7 #[.pointer (some ⟨g, 0, none⟩), .agg (qc r)] w fun e w' => e = .returned (.int .i64 0) ∧ Fr (fun k => k = g) w w' ∧ Ss w' g (fst r b) (onlyQ r) 0 b := by
  have hmf : ∀ (fn : Fn) (first cap : Array Value) (w : World), (Instr.makeFunc fn first cap).run Try.prog w = .ok (.func fn first cap) w := fun _ _ _ _ => rfl
  have h1 := (Bk.new w 28 #[.pointer (some ⟨g, 0, none⟩)]).alloc (.cells (qc r) 40)
  have h2 := new' (g := w.heap.size + 1) (w := w.alloc (.cells #[.pointer (some ⟨g, 0, none⟩)] 28)) (t := 40) (cs := qc r) (by simp)
  have hS := (hB.alloc (.cells #[.pointer (some ⟨g, 0, none⟩)] 28)).alloc (.cells (qc r) 40)
  have G0 := Lib.hid (((Fr.refl (fun k => k = g) w).alloc (.cells #[.pointer (some ⟨g, 0, none⟩)] 28)).alloc (.cells (qc r) 40))
  have K := Lib.hid (does_ret (first := #[]) (cap := #[.pointer (some ⟨w.heap.size, 0, none⟩), .pointer (some ⟨w.heap.size + 1, 0, none⟩)]) hS enters_s1 (fun W hW => by rw [Array.empty_append]; exact s1_ok W (h1.fr hW id) (h2.fr hW id) (start_ok W (Bk.fr hS hW id) hgr)))
  clear h1 h2 hS hB hgr
  generalize fst r b = f at *
  go_enter Try.func7, Try.ntmps7
  go_wp2_with fail
  refine K.out.mono ?_
  rintro e w1 ⟨rfl, hf, hs⟩
  have HF := Lib.hid hf
  have HS := Lib.hid hs
  clear hf hs
  go_wp2_with fail
  go_ret
  exact ⟨rfl, G0.out.trans HF.out, HS.out⟩
theorem Start_bad {g : Nat} {r q : Rq} {p t b x c : Int} (hB : Ss w g p q t b) (h : ∀ W, Ss W g p q t b → Calls Try.prog 19 #[.pointer (some ⟨g, 0, none⟩), .agg (qc r)] W fun e w' => e = .panicked [fault x c] ∧ Fr Nil W w') : Calls Try.prog 7 #[.pointer (some ⟨g, 0, none⟩), .agg (qc r)] w fun e w' => e = .returned (.int .i64 c) ∧ Fr Nil w w' := by
  have hmf : ∀ (fn : Fn) (first cap : Array Value) (w : World), (Instr.makeFunc fn first cap).run Try.prog w = .ok (.func fn first cap) w := fun _ _ _ _ => rfl
  have h1 := (Bk.new w 28 #[.pointer (some ⟨g, 0, none⟩)]).alloc (.cells (qc r) 40)
  have h2 := new' (g := w.heap.size + 1) (w := w.alloc (.cells #[.pointer (some ⟨g, 0, none⟩)] 28)) (t := 40) (cs := qc r) (by simp)
  have hS := (hB.alloc (.cells #[.pointer (some ⟨g, 0, none⟩)] 28)).alloc (.cells (qc r) 40)
  have G0 := Lib.hid (((Fr.refl Nil w).alloc (.cells #[.pointer (some ⟨g, 0, none⟩)] 28)).alloc (.cells (qc r) 40))
  have K := Lib.hid (does_fault (g := g) (x := x) (c := c) (w := (w.alloc (.cells #[.pointer (some ⟨g, 0, none⟩)] 28)).alloc (.cells (qc r) 40)) (first := #[]) (cap := #[.pointer (some ⟨w.heap.size, 0, none⟩), .pointer (some ⟨w.heap.size + 1, 0, none⟩)]) enters_s1 (fun W hW => by rw [Array.empty_append]; exact s1_bad W (h1.fr hW id) (h2.fr hW id) (h W (Bk.fr hS hW id))))
  clear h1 h2 hS hB h
  go_enter Try.func7, Try.ntmps7
  go_wp2_with fail
  refine K.out.mono ?_
  rintro e w1 ⟨rfl, hf⟩
  have HF := Lib.hid hf
  clear hf
  go_wp2_with fail
  go_ret
  exact ⟨rfl, G0.out.trans HF.out⟩
end
end Go.Proofs.Yteceghhjpejdnaa.SessH
