/- Chapter 32: the walk of Finish. -/
import Derived.Test.YteceghhjpejdnaaSessH
namespace Go.Proofs.Yteceghhjpejdnaa.SessL
open Go.RowKit Base Big Slices TrapA TrapB TrapG CodecA CodecB CodecC CodecK SessA SessB SessC SessD SessE
set_option linter.unusedVariables false
set_option linter.unusedSimpArgs false

theorem enters_f1 : Enters 36 := fun args w => by simp [go_sem]
section
variable {F : FuncId} {first cap : Array Value} {w : World}
theorem does2_ret {g m : Nat} {p p' : Int} {r r' : Rq} {t t' b b' : Int} {T : TypeId} {cs : Array Value} (hB : Ss w g p r t b) (hm : m < w.heap.size) (hF : Enters F)
    (h : ∀ W, Fr Nil w W → Calls Try.prog F (first ++ cap) W fun e w1 => e = .returned (.tuple #[]) ∧ Fr (fun k => k = g ∨ k = m) W w1 ∧ Ss w1 g p' r' t' b' ∧ Bk w1 m T cs) :
    Calls Try.prog 17 #[.pointer (some ⟨g, 0, none⟩), .func (.func F) first cap] w fun e w' => e = .returned (.int .i64 0) ∧ Fr (fun k => k = g ∨ k = m) w w' ∧ Ss w' g p' r' t' b' ∧ Bk w' m T cs := by
  have hg := hB.lt
  refine (does_of (g := g) (CatchG_ret (F := F) (first := first) (cap := cap) (w := w) (S := fun k => k = g ∨ k = m) (Q := fun _ w1 => Ss w1 g p' r' t' b' ∧ Bk w1 m T cs) (fun k hk => by omega) hF h)).mono ?_
  rintro e w' ⟨he, hf, w1, ⟨W, w2, h1, h2, ⟨h3, h3'⟩, h4⟩, h5⟩
  exact ⟨he, hf, Bk.fr (Bk.fr h3 h4 (fun hh => by omega)) h5 id, Bk.fr (Bk.fr h3' h4 (fun hh => by omega)) h5 id⟩
end
section
variable (w : World)
theorem f1_ok {m1 m2 g : Nat} {p : Int} {r : Rq} {t b : Int} (h1 : Bk w m1 28 #[.pointer (some ⟨g, 0, none⟩)]) (h2 : Bk w m2 40 #[.int .i64 0, .int .i64 0, .int .i64 0, .int .i64 0, .int .i64 0, .int .i64 0, .int .i64 0, .int .i64 0, .int .i64 0, .int .i64 0, .int .i64 0, .int .i64 0, .int .i64 0, .int .i64 0, .int .i64 0, .int .i64 0, .int .i64 0, .int .i64 0]) (hS : Ss w g p r t b) (hp : p ∈ [1, 3]) (n1 : m1 ≠ g) (n2 : m2 ≠ g) :
    Calls Try.prog 36 #[.pointer (some ⟨m1, 0, none⟩), .pointer (some ⟨m2, 0, none⟩)] w fun e w' => e = .returned (.tuple #[]) ∧ Fr (fun k => k = g ∨ k = m2) w w' ∧ Ss w' g 0 zQ t b ∧ Bk w' m2 40 (qc r) := by
  have KI := Lib.hid (in_ok (w.alloc (.cells #[.int .i64 1, .int .i64 3] 42)) (c := 10) w.heap.size 2 [1, 3] (hS.alloc _) (lit_sl EP_ok [1, 3] rfl (by simp) _) rfl (by decide) hp)
  have HS := Lib.hid (hS.alloc (.cells #[.int .i64 1, .int .i64 3] 42))
  have H1 := Lib.hid (h1.alloc (.cells #[.int .i64 1, .int .i64 3] 42))
  have H2 := Lib.hid (h2.alloc (.cells #[.int .i64 1, .int .i64 3] 42))
  have G0 := Lib.hid ((Fr.refl (fun k => k = g ∨ k = m2) w).alloc (.cells #[.int .i64 1, .int .i64 3] 42))
  have KE := Lib.hid (fun W (h : Ss W g p r t b) => ends_any W (n := 0) h)
  have N1 := Lib.hid n1
  have N2 := Lib.hid n2
  obtain ⟨c1, f1⟩ := h1.c1
  have hg := hS.lt
  have hm2 := h2.lt
  clear h1 h2 hS hp n1 n2
  generalize p = p' at *
  go_enter Try.func36, Try.ntmps36
  go_wp2_with fail
  refine KI.out.mono ?_
  rintro e w1 ⟨rfl, hf⟩
  have HS1 := Lib.hid (HS.out.fr hf id)
  have H21 := Lib.hid (H2.out.fr hf id)
  have HF1 := Lib.hid (G0.out.trans hf.of_nil)
  obtain ⟨c11, f11⟩ := (H1.out.fr hf id).c1
  clear hf
  go_wp2_with fail
  refine (KE.out _ HS1.out).mono ?_
  rintro e w2 ⟨rfl, hf2, hs2⟩
  have HS2 := Lib.hid hs2
  have H22 := Lib.hid (H21.out.fr hf2 N2.out)
  have HF2 := Lib.hid (HF1.out.trans (hf2.mono fun k hk _ => Or.inl hk))
  clear hf2 hs2
  go_wp2_with (first
    | (with_reducible refine wpList_storeQ (x := .tmp 1) (y := .tmp 6) (q := r) ?_ ?_ H22.out ?_ ?_); rfl; rfl; rfl; intro w3 hb3 hf3; have H23 := Lib.hid hb3; have HS3 := Lib.hid (HS2.out.fr hf3 (fun e => N2.out e.symm)); have HF3 := Lib.hid (HF2.out.trans (hf3.mono fun k hk _ => Or.inr hk)); clear hb3 hf3)
  go_end0
  exact ⟨rfl, HF3.out, HS3.out, H23.out⟩
theorem f1_bad {m1 m2 g : Nat} {p : Int} {r : Rq} {t b : Int} (h1 : Bk w m1 28 #[.pointer (some ⟨g, 0, none⟩)]) (hS : Ss w g p r t b) (hp : p ∉ [1, 3]) :
    Calls Try.prog 36 #[.pointer (some ⟨m1, 0, none⟩), .pointer (some ⟨m2, 0, none⟩)] w fun e w' => e = .panicked [fault p 10] ∧ Fr Nil w w' := by
  have KI := Lib.hid (in_bad (w.alloc (.cells #[.int .i64 1, .int .i64 3] 42)) (c := 10) (by decide) w.heap.size 2 [1, 3] (hS.alloc _) (lit_sl EP_ok [1, 3] rfl (by simp) _) rfl (by decide) hp)
  have G0 := Lib.hid ((Fr.refl Nil w).alloc (.cells #[.int .i64 1, .int .i64 3] 42))
  obtain ⟨c1, f1⟩ := h1.c1
  clear h1 hS hp
  go_enter Try.func36, Try.ntmps36
  go_wp2_with fail
  refine KI.out.mono ?_
  rintro e w1 ⟨rfl, hf⟩
  exact ⟨rfl, rfl, G0.out.trans hf⟩
theorem Finish_ok {g : Nat} {p : Int} {r : Rq} {t b : Int} (hB : Ss w g p r t b) (hp : p ∈ [1, 3]) : Calls Try.prog 24 #[.pointer (some ⟨g, 0, none⟩)] w fun e w' => e = .returned (.tuple #[.agg (qc r), .int .i64 0]) ∧ Fr (fun k => k = g) w w' ∧ Ss w' g 0 zQ t b := by
  have hmf : ∀ (fn : Fn) (first cap : Array Value) (w : World), (Instr.makeFunc fn first cap).run Try.prog w = .ok (.func fn first cap) w := fun _ _ _ _ => rfl
  have hg := hB.lt
  have h1 := (Bk.new w 28 #[.pointer (some ⟨g, 0, none⟩)]).alloc (.cells #[.int .i64 0, .int .i64 0, .int .i64 0, .int .i64 0, .int .i64 0, .int .i64 0, .int .i64 0, .int .i64 0, .int .i64 0, .int .i64 0, .int .i64 0, .int .i64 0, .int .i64 0, .int .i64 0, .int .i64 0, .int .i64 0, .int .i64 0, .int .i64 0] 40)
  have h2 := new' (g := w.heap.size + 1) (w := w.alloc (.cells #[.pointer (some ⟨g, 0, none⟩)] 28)) (t := 40) (cs := #[.int .i64 0, .int .i64 0, .int .i64 0, .int .i64 0, .int .i64 0, .int .i64 0, .int .i64 0, .int .i64 0, .int .i64 0, .int .i64 0, .int .i64 0, .int .i64 0, .int .i64 0, .int .i64 0, .int .i64 0, .int .i64 0, .int .i64 0, .int .i64 0]) (by simp)
  have hS := (hB.alloc (.cells #[.pointer (some ⟨g, 0, none⟩)] 28)).alloc (.cells #[.int .i64 0, .int .i64 0, .int .i64 0, .int .i64 0, .int .i64 0, .int .i64 0, .int .i64 0, .int .i64 0, .int .i64 0, .int .i64 0, .int .i64 0, .int .i64 0, .int .i64 0, .int .i64 0, .int .i64 0, .int .i64 0, .int .i64 0, .int .i64 0] 40)
  have G0 := Lib.hid (((Fr.refl (fun k => k = g) w).alloc (.cells #[.pointer (some ⟨g, 0, none⟩)] 28)).alloc (.cells #[.int .i64 0, .int .i64 0, .int .i64 0, .int .i64 0, .int .i64 0, .int .i64 0, .int .i64 0, .int .i64 0, .int .i64 0, .int .i64 0, .int .i64 0, .int .i64 0, .int .i64 0, .int .i64 0, .int .i64 0, .int .i64 0, .int .i64 0, .int .i64 0] 40))
  have K := Lib.hid (does2_ret (m := w.heap.size + 1) (T := 40) (cs := qc r) (first := #[]) (cap := #[.pointer (some ⟨w.heap.size, 0, none⟩), .pointer (some ⟨w.heap.size + 1, 0, none⟩)]) hS h2.lt enters_f1 (fun W hW => by rw [Array.empty_append]; exact f1_ok W (h1.fr hW id) (h2.fr hW id) (Bk.fr hS hW id) hp (by omega) (by omega)))
  obtain ⟨c1, f1⟩ := h1.c1
  clear h1 h2 hS hB hp
  go_enter Try.func24, Try.ntmps24
  go_wp2_with fail
  refine K.out.mono ?_
  rintro e w1 ⟨rfl, hf, hs, hr⟩
  have HS := Lib.hid hs
  have HR := Lib.hid hr
  have HF := Lib.hid (G0.out.then hf (fun k hk hlt => by omega))
  clear hf hs hr K
  go_wp2_with (first
    | (with_reducible refine wpList_loadQ (dst := some 7) ?_ HR.out ?_); rfl
    | (with_reducible refine wpList_storeQ (x := .tmp 2) (y := .tmp 7) (q := r) ?_ ?_ HR.out ?_ ?_); rfl; rfl; rfl; intro w3 hb3 hf3; have HR3 := Lib.hid hb3; have HS3 := Lib.hid (HS.out.fr hf3 (by omega)); have HF3 := Lib.hid (HF.out.then hf3 (fun k hk hlt => by omega)); clear hb3 hf3)
  exact bodyPost_ret (v := .tuple #[.agg (qc r), .int .i64 0]) (res_run2 rfl rfl Try.req_str HR3.out rfl rfl) rfl ⟨rfl, HF3.out, HS3.out⟩
theorem Finish_bad {g : Nat} {p : Int} {r : Rq} {t b : Int} (hB : Ss w g p r t b) (hp : p ∉ [1, 3]) : Calls Try.prog 24 #[.pointer (some ⟨g, 0, none⟩)] w fun e w' => e = .returned (.tuple #[.agg (qc zQ), .int .i64 10]) ∧ Fr Nil w w' := by
  have hmf : ∀ (fn : Fn) (first cap : Array Value) (w : World), (Instr.makeFunc fn first cap).run Try.prog w = .ok (.func fn first cap) w := fun _ _ _ _ => rfl
  have hg := hB.lt
  have h1 := (Bk.new w 28 #[.pointer (some ⟨g, 0, none⟩)]).alloc (.cells #[.int .i64 0, .int .i64 0, .int .i64 0, .int .i64 0, .int .i64 0, .int .i64 0, .int .i64 0, .int .i64 0, .int .i64 0, .int .i64 0, .int .i64 0, .int .i64 0, .int .i64 0, .int .i64 0, .int .i64 0, .int .i64 0, .int .i64 0, .int .i64 0] 40)
  have h2 := new' (g := w.heap.size + 1) (w := w.alloc (.cells #[.pointer (some ⟨g, 0, none⟩)] 28)) (t := 40) (cs := #[.int .i64 0, .int .i64 0, .int .i64 0, .int .i64 0, .int .i64 0, .int .i64 0, .int .i64 0, .int .i64 0, .int .i64 0, .int .i64 0, .int .i64 0, .int .i64 0, .int .i64 0, .int .i64 0, .int .i64 0, .int .i64 0, .int .i64 0, .int .i64 0]) (by simp)
  have hS := (hB.alloc (.cells #[.pointer (some ⟨g, 0, none⟩)] 28)).alloc (.cells #[.int .i64 0, .int .i64 0, .int .i64 0, .int .i64 0, .int .i64 0, .int .i64 0, .int .i64 0, .int .i64 0, .int .i64 0, .int .i64 0, .int .i64 0, .int .i64 0, .int .i64 0, .int .i64 0, .int .i64 0, .int .i64 0, .int .i64 0, .int .i64 0] 40)
  have G0 := Lib.hid (((Fr.refl Nil w).alloc (.cells #[.pointer (some ⟨g, 0, none⟩)] 28)).alloc (.cells #[.int .i64 0, .int .i64 0, .int .i64 0, .int .i64 0, .int .i64 0, .int .i64 0, .int .i64 0, .int .i64 0, .int .i64 0, .int .i64 0, .int .i64 0, .int .i64 0, .int .i64 0, .int .i64 0, .int .i64 0, .int .i64 0, .int .i64 0, .int .i64 0] 40))
  have H2 := Lib.hid h2
  have K := Lib.hid (does_fault (g := g) (x := p) (c := 10) (w := (w.alloc (.cells #[.pointer (some ⟨g, 0, none⟩)] 28)).alloc (.cells #[.int .i64 0, .int .i64 0, .int .i64 0, .int .i64 0, .int .i64 0, .int .i64 0, .int .i64 0, .int .i64 0, .int .i64 0, .int .i64 0, .int .i64 0, .int .i64 0, .int .i64 0, .int .i64 0, .int .i64 0, .int .i64 0, .int .i64 0, .int .i64 0] 40)) (first := #[]) (cap := #[.pointer (some ⟨w.heap.size, 0, none⟩), .pointer (some ⟨w.heap.size + 1, 0, none⟩)]) enters_f1 (fun W hW => by rw [Array.empty_append]; exact f1_bad W (h1.fr hW id) (Bk.fr hS hW id) hp))
  obtain ⟨c1, f1⟩ := h1.c1
  clear h1 h2 hS hB hp
  go_enter Try.func24, Try.ntmps24
  go_wp2_with fail
  refine K.out.mono ?_
  rintro e w1 ⟨rfl, hf⟩
  have HR := Lib.hid (H2.out.fr hf id)
  have HF := Lib.hid (G0.out.trans hf)
  clear hf K
  go_wp2_with (first
    | (with_reducible refine wpList_loadQ (dst := some 7) (q := zQ) ?_ HR.out ?_); rfl
    | (with_reducible refine wpList_storeQ (x := .tmp 2) (y := .tmp 7) (q := zQ) ?_ ?_ HR.out ?_ ?_); rfl; rfl; rfl; intro w3 hb3 hf3; have HR3 := Lib.hid hb3; have HF3 := Lib.hid (HF.out.then hf3 (fun k hk hlt => by omega)); clear hb3 hf3)
  exact bodyPost_ret (v := .tuple #[.agg (qc zQ), .int .i64 10]) (res_run2 rfl rfl Try.req_str HR3.out rfl rfl) rfl ⟨rfl, HF3.out⟩
end
end Go.Proofs.Yteceghhjpejdnaa.SessL
