/- Chapter 29: trap.Value of a request; the walk of Decode. -/
import Derived.Test.YtdfggjniemncgaaCodecD
import Derived.Test.YtdfggjniemncgaaTrapG
import Derived.RegionTactic
import Derived.Test.YtdfggjniemncgaaBigR
namespace Go.Proofs.Ytdfggjniemncgaa.CodecE
open Go.RowKit Base Big Slices VintA VintB VintC VintD CodecA TrapA TrapB TrapG CodecC CodecD Quiet
set_option linter.unusedVariables false
set_option linter.unusedSimpArgs false

/-- how a call that makes a request ends -/
def Makes (F : FuncId) (args : Array Value) (w : World) (S : Nat → Prop) (r : Rq) : Prop :=
  ∀ W, Fr Nil w W → Calls Try.prog F args W fun e w1 => e = .returned (.agg (qc r)) ∧ Fr S W w1

section
variable {F : FuncId} {first cap : Array Value} {w : World} {S : Nat → Prop}

theorem v1_ret {n m : Nat} {r : Rq} {old : Array Value} (hF : Enters F) (hn : Bk w n 54 #[.func (.func F) first cap]) (hm : Bk w m 36 old) (ho : old.size = 18) (hmS : ¬ S m)
    (h : Calls Try.prog F (first ++ cap) w fun e w1 => e = .returned (.agg (qc r)) ∧ Fr S w w1) :
    Calls Try.prog 30 #[.pointer (some ⟨n, 0, none⟩), .pointer (some ⟨m, 0, none⟩)] w fun e w' => e = .returned (.tuple #[]) ∧ Fr (fun k => S k ∨ k = m) w w' ∧ Bk w' m 36 (qc r) := by
  have H := Lib.hid h
  unfold Enters at hF
  clear h
  obtain ⟨c1, f1⟩ := hn.c1
  have HM := Lib.hid hm
  have HS := Lib.hid hmS
  have HO := Lib.hid ho
  clear hm hmS ho hn
  go_enter Try.func30, Try.ntmps30
  go_wp2_with (first
    | (with_reducible refine wpList_storeQ (x := .tmp 1) (y := .tmp 3) (q := r) ?_ ?_ HM1.out ?_ ?_); rfl; rfl; exact HO.out; intro w2 hb2 hf2; have HB2 := Lib.hid hb2; have HF2 := Lib.hid ((HFR.out.mono fun i s _ => Or.inl s).trans (hf2.mono fun i s _ => Or.inr s)); clear hb2 hf2
    | (refine H.out.mono ?_; rintro e w1 ⟨rfl, hfr⟩; have HM1 := Lib.hid (HM.out.fr hfr HS.out); have HFR := Lib.hid hfr; clear hfr))
  go_end0
  exact ⟨rfl, HF2.out, HB2.out⟩

theorem v1_fault {n m : Nat} {x c : Int} (hF : Enters F) (hn : Bk w n 54 #[.func (.func F) first cap])
    (h : Calls Try.prog F (first ++ cap) w fun e w1 => e = .panicked [fault x c] ∧ Fr S w w1) :
    Calls Try.prog 30 #[.pointer (some ⟨n, 0, none⟩), .pointer (some ⟨m, 0, none⟩)] w fun e w' => e = .panicked [fault x c] ∧ Fr S w w' ∧ True := by
  have H := Lib.hid h
  unfold Enters at hF
  clear h
  obtain ⟨c1, f1⟩ := hn.c1
  go_enter Try.func30, Try.ntmps30
  go_wp2_with (refine H.out.mono ?_; rintro e w1 ⟨rfl, hfr⟩)
  exact ⟨rfl, rfl, hfr, trivial⟩
theorem enters_v1 : Enters 30 := fun args w => by simp [go_sem]

set_option maxRecDepth 100000 in
set_option maxHeartbeats 4000000 in
theorem Value_ok {r : Rq} (hS : ∀ k, S k → k < w.heap.size) (hF : Enters F) (h : Makes F (first ++ cap) w S r) :
    Calls Try.prog 19 #[.func (.func F) first cap] w fun e w' => e = .returned (.tuple #[.agg (qc r), .int .i64 0]) ∧ Fr S w w' := by
  have hmf : ∀ (fn : Fn) (first cap : Array Value) (w : World), (Instr.makeFunc fn first cap).run Try.prog w = .ok (.func fn first cap) w := fun _ _ _ _ => rfl
  obtain ⟨W0, hW0⟩ : ∃ W0, ((w.alloc (.cells #[.func (.func F) first cap] 54)).alloc (.cells #[.int .i64 0, .int .i64 0, .int .i64 0, .int .i64 0, .int .i64 0, .int .i64 0, .int .i64 0, .int .i64 0, .int .i64 0, .int .i64 0, .int .i64 0, .int .i64 0, .int .i64 0, .int .i64 0, .int .i64 0, .int .i64 0, .int .i64 0, .int .i64 0] 36)).alloc (.cells #[.int .i64 0, .int .i64 0, .int .i64 0, .int .i64 0, .int .i64 0, .int .i64 0, .int .i64 0, .int .i64 0, .int .i64 0, .int .i64 0, .int .i64 0, .int .i64 0, .int .i64 0, .int .i64 0, .int .i64 0, .int .i64 0, .int .i64 0, .int .i64 0] 36) = W0 := ⟨_, rfl⟩
  have hf0 : Fr Nil w W0 := by rw [← hW0]; exact (((Fr.refl _ w).alloc _).alloc _).alloc _
  have hsz0 : W0.heap.size = w.heap.size + 3 := by rw [← hW0]; simp
  have b1 : Bk W0 w.heap.size 54 #[.func (.func F) first cap] := by rw [← hW0]; exact ((Bk.new w _ _).alloc _).alloc _
  have b2 : Bk W0 (w.heap.size + 1) 36 #[.int .i64 0, .int .i64 0, .int .i64 0, .int .i64 0, .int .i64 0, .int .i64 0, .int .i64 0, .int .i64 0, .int .i64 0, .int .i64 0, .int .i64 0, .int .i64 0, .int .i64 0, .int .i64 0, .int .i64 0, .int .i64 0, .int .i64 0, .int .i64 0] := by rw [← hW0]; exact (new' (by simp)).alloc _
  have hmS : ¬ S (w.heap.size + 1) := fun s => by have := hS _ s; omega
  have hf2 : Fr Nil W0 (W2 W0) := frW2 Nil W0
  have hS' : ∀ k, (S k ∨ k = w.heap.size + 1) → k < W0.heap.size := fun k s => s.elim (fun e => by have := hS k e; omega) (fun e => by omega)
  have hc1 := v1_ret (m := w.heap.size + 1) hF (b1.fr hf2 id) (b2.fr hf2 id) rfl hmS (h _ (hf0.trans hf2))
  have hc := catchG_ret 30 #[] #[.pointer (some ⟨w.heap.size, 0, none⟩), .pointer (some ⟨w.heap.size + 1, 0, none⟩)] W0 (fun k => S k ∨ k = w.heap.size + 1) hS'
    (fun w2 => Bk w2 (w.heap.size + 1) 36 (qc r)) enters_v1 (by rw [Array.empty_append]; exact hc1)
  have H := Lib.hid hc
  have HF0 := Lib.hid hf0
  have HSZ := Lib.hid hsz0
  have HS := Lib.hid hS
  have HW2 := Lib.hid (show (W2 W0).heap.size = W0.heap.size + 2 by simp [W2])
  clear hS' h hF hc hc1 b1 b2 hmS hf0 hsz0 hf2 hS
  go_enter Try.func19, Try.ntmps19
  go_wp2_with fail
  refine H.out.mono ?_
  rintro e w1 ⟨rfl, hfr, w2, _, h3, h6⟩
  have hsz := HSZ.out
  have hw2 := HW2.out
  have HB := Lib.hid (Bk.alloc (h3.fr h6 (by rintro ⟨h, _⟩; omega)) (.cells #[.int .i64 0, .int .i64 0] 64))
  have HFR := Lib.hid (show Fr S w (w1.alloc (.cells #[.int .i64 0, .int .i64 0] 64)) from ((Fr.of_nil (S := S) HF0.out).then hfr (fun i s hi => s.elim id (fun e => absurd e (by omega)))).alloc _)
  clear hfr h3 h6 hsz hw2
  go_wp2_with (first
    | (with_reducible refine wpList_loadQ (dst := some 16) ?_ HB.out ?_); rfl
    | (with_reducible refine wpList_storeQ (x := .tmp 2) (y := .tmp 16) (q := r) ?_ ?_ HB.out ?_ ?_); rfl; rfl; rfl; intro w6 hb6 hf6; have HA6 := Lib.hid hb6; have HF6 := Lib.hid (HFR.out.then hf6 (fun k hk hlt => by omega)); clear hb6 hf6)
  exact bodyPost_ret (v := .tuple #[.agg (qc r), .int .i64 0]) (res_run2 rfl rfl Try.req_str HA6.out rfl rfl) rfl ⟨rfl, HF6.out⟩

set_option maxRecDepth 100000 in
set_option maxHeartbeats 4000000 in
theorem Value_bad {x c : Int} (hS : ∀ k, S k → k < w.heap.size) (hF : Enters F) (h : ∀ W, Fr Nil w W → Calls Try.prog F (first ++ cap) W fun e w1 => e = .panicked [fault x c] ∧ Fr S W w1) :
    Calls Try.prog 19 #[.func (.func F) first cap] w fun e w' => e = .returned (.tuple #[.agg (qc (⟨0, 0, 0, 0, 0, 0, 0, 0, 0, 0, 0, 0, 0, 0, 0, 0, 0, 0⟩ : Rq)), .int .i64 c]) ∧ Fr S w w' := by
  have hmf : ∀ (fn : Fn) (first cap : Array Value) (w : World), (Instr.makeFunc fn first cap).run Try.prog w = .ok (.func fn first cap) w := fun _ _ _ _ => rfl
  obtain ⟨W0, hW0⟩ : ∃ W0, ((w.alloc (.cells #[.func (.func F) first cap] 54)).alloc (.cells #[.int .i64 0, .int .i64 0, .int .i64 0, .int .i64 0, .int .i64 0, .int .i64 0, .int .i64 0, .int .i64 0, .int .i64 0, .int .i64 0, .int .i64 0, .int .i64 0, .int .i64 0, .int .i64 0, .int .i64 0, .int .i64 0, .int .i64 0, .int .i64 0] 36)).alloc (.cells #[.int .i64 0, .int .i64 0, .int .i64 0, .int .i64 0, .int .i64 0, .int .i64 0, .int .i64 0, .int .i64 0, .int .i64 0, .int .i64 0, .int .i64 0, .int .i64 0, .int .i64 0, .int .i64 0, .int .i64 0, .int .i64 0, .int .i64 0, .int .i64 0] 36) = W0 := ⟨_, rfl⟩
  have hf0 : Fr Nil w W0 := by rw [← hW0]; exact (((Fr.refl _ w).alloc _).alloc _).alloc _
  have hsz0 : W0.heap.size = w.heap.size + 3 := by rw [← hW0]; simp
  have b1 : Bk W0 w.heap.size 54 #[.func (.func F) first cap] := by rw [← hW0]; exact ((Bk.new w _ _).alloc _).alloc _
  have b2 : Bk W0 (w.heap.size + 1) 36 #[.int .i64 0, .int .i64 0, .int .i64 0, .int .i64 0, .int .i64 0, .int .i64 0, .int .i64 0, .int .i64 0, .int .i64 0, .int .i64 0, .int .i64 0, .int .i64 0, .int .i64 0, .int .i64 0, .int .i64 0, .int .i64 0, .int .i64 0, .int .i64 0] := by rw [← hW0]; exact (new' (by simp)).alloc _
  have b3 : Bk W0 (w.heap.size + 2) 36 #[.int .i64 0, .int .i64 0, .int .i64 0, .int .i64 0, .int .i64 0, .int .i64 0, .int .i64 0, .int .i64 0, .int .i64 0, .int .i64 0, .int .i64 0, .int .i64 0, .int .i64 0, .int .i64 0, .int .i64 0, .int .i64 0, .int .i64 0, .int .i64 0] := by rw [← hW0]; exact new' (by simp)
  have hmS : ¬ S (w.heap.size + 1) := fun s => by have := hS _ s; omega
  have hmS2 : ¬ S (w.heap.size + 2) := fun s => by have := hS _ s; omega
  have hf2 : Fr Nil W0 (W2 W0) := frW2 Nil W0
  have hc1 := v1_fault (m := w.heap.size + 1) hF (b1.fr hf2 id) (h _ (hf0.trans hf2))
  have hc := catchG_fault 30 #[] #[.pointer (some ⟨w.heap.size, 0, none⟩), .pointer (some ⟨w.heap.size + 1, 0, none⟩)] W0 x c S (fun k s => by have := hS k s; omega)
    (fun _ => True) enters_v1 (by rw [Array.empty_append]; exact hc1)
  have H := Lib.hid hc
  have HB2 := Lib.hid b2
  have HB3 := Lib.hid b3
  have HM := Lib.hid hmS
  have HM2 := Lib.hid hmS2
  have HF0 := Lib.hid hf0
  have HSZ := Lib.hid hsz0
  clear h hF hc hc1 b1 b2 b3 hmS hmS2 hf0 hsz0 hf2 hS
  go_enter Try.func19, Try.ntmps19
  go_wp2_with fail
  refine H.out.mono ?_
  rintro e w1 ⟨rfl, hfr, _⟩
  have HB := Lib.hid (HB2.out.fr hfr HM.out)
  have HC := Lib.hid (HB3.out.fr hfr HM2.out)
  have HFR := Lib.hid ((Fr.of_nil (S := S) HF0.out).trans hfr)
  have hlt := HC.out.lt
  have hne1 : ¬ w.heap.size + 1 = w1.heap.size := by omega
  have hne2 : ¬ w.heap.size + 2 = w1.heap.size := by omega
  have HBd := Lib.hid (HB.out.alloc (.cells #[.int .i64 x, .int .i64 c] 64))
  have HCd := Lib.hid (HC.out.alloc (.cells #[.int .i64 x, .int .i64 c] 64))
  have HN := Lib.hid (Bk.new w1 64 #[.int .i64 x, .int .i64 c])
  have HFf := Lib.hid (HFR.out.alloc (.cells #[.int .i64 x, .int .i64 c] 64))
  clear hfr
  go_wp2_with fail
  generalize w1.alloc (.cells #[.int .i64 x, .int .i64 c] 64) = wf at HBd HCd HN HFf ⊢
  refine wp_region_held (S := fun w' => Bk w' (w.heap.size + 2) 36 (qc (⟨0, 0, 0, 0, 0, 0, 0, 0, 0, 0, 0, 0, 0, 0, 0, 0, 0, 0⟩ : Rq)) ∧ Bk w' w1.heap.size 64 #[.int .i64 x, .int .i64 c]) (by kernel_rfl) ?_
  refine wpAnyH_take (i := 0) (v := .agg (qc (⟨0, 0, 0, 0, 0, 0, 0, 0, 0, 0, 0, 0, 0, 0, 0, 0, 0, 0⟩ : Rq))) rfl (by kernel_rfl) (by kernel_rfl) (by kernel_rfl) (fun _ _ _ h => h) (yields_load rfl Try.req_str (fun _ h => h.1) rfl) ⟨HCd.out.drew, HN.out.drew⟩ ?_
  refine wpAnyH_take (i := 1) (v := .pointer (some ⟨w1.heap.size, 1, none⟩)) rfl (by kernel_rfl) (by kernel_rfl) (by kernel_rfl) (fun _ _ _ h => h) (Or.inl ⟨by rfl, fun w' hw' => by go_simp⟩) ⟨HCd.out.drew, HN.out.drew⟩ ?_
  refine wpAnyH_take (i := 2) (v := .int .i64 c) rfl (by kernel_rfl) (by kernel_rfl) (by kernel_rfl) (fun _ _ _ h => h) (Or.inl ⟨by rfl, fun w' hw' => by have hc1 := hw'.2.cell 1; simp only [List.getElem?_toArray, List.getElem?_cons_succ, List.getElem?_cons_zero] at hc1; go_simp⟩) ⟨HCd.out.drew, HN.out.drew⟩ ?_
  refine wpAnyH_all (rs := [3]) (by kernel_rfl) (by simp) (fun i hi => ?_)
  obtain rfl : i = 3 := by simpa using hi
  refine wpOp_storeB (g := w.heap.size + 1) (cs := qc (⟨0, 0, 0, 0, 0, 0, 0, 0, 0, 0, 0, 0, 0, 0, 0, 0, 0, 0⟩ : Rq)) rfl rfl rfl Try.req_str HBd.out.drew rfl rfl (qc_one _) ?_
  intro w3 hb3 hf3
  have hC3 := HCd.out.drew.fr hf3 (by omega)
  have hN3 := HN.out.drew.fr hf3 (by omega)
  refine ⟨⟨hC3, hN3⟩, ?_⟩
  refine wpAnyH_take (i := 4) (v := .int .i64 c) rfl (by kernel_rfl) (by kernel_rfl) (by kernel_rfl) (fun _ _ _ h => h) (Or.inl ⟨by rfl, fun w' hw' => by go_simp⟩) ⟨hC3, hN3⟩ ?_
  refine wpAnyH_done (by kernel_rfl) ?_ _
  have HA3 := Lib.hid hb3
  have HF3 := Lib.hid (HFf.out.drew.then hf3 (fun k hk hlt => by omega))
  go_wp2_with fail
  exact bodyPost_ret (v := .tuple #[.agg (qc (⟨0, 0, 0, 0, 0, 0, 0, 0, 0, 0, 0, 0, 0, 0, 0, 0, 0, 0⟩ : Rq)), .int .i64 c]) (res_run2 rfl rfl Try.req_str HA3.out rfl rfl) rfl ⟨rfl, HF3.out⟩
end
end Go.Proofs.Ytdfggjniemncgaa.CodecE
