/- Contracts of package trap: Value (of ints), and what of memory it may have turned behind what it calls. -/
import Derived.Test.YtemofdbepalnkaaTrapG
import Derived.Test.YtemofdbepalnkaaMem
import Derived.Test.YtemofdbepalnkaaTrapDInt
namespace Go.Proofs.Ytemofdbepalnkaa.TrapV
open Go.RowKit TrapA TrapB TrapG Base
set_option linter.unusedVariables false
set_option linter.unusedSimpArgs false

theorem left_nil {w w' w'' : World} {S : Nat → Prop} {Q : World → World → Prop} (h : TrapG.Left w S Q w') (hf : Fr Nil w' w'') : TrapG.Left w S Q w'' := by
  obtain ⟨W, w1, h1, h2, h3, h4⟩ := h
  exact ⟨W, w1, h1, h2, h3, h4.trans hf.of_nil⟩

section
variable {F : FuncId} {first cap : Array Value} {w : World} {S : Nat → Prop} {Q : World → World → Prop}

set_option maxHeartbeats 1000000 in
theorem ValueG_ret {v : Int} (hS : ∀ k, S k → k < w.heap.size) (hF : Enters F) (h : RunsG F (first ++ cap) w S (.returned (.int .i64 v)) Q) :
    Calls Try.prog 23 #[.func (.func F) first cap] w fun e w' => e = .returned (.tuple #[.int .i64 v, .int .i64 0]) ∧ Fr S w w' ∧ TrapG.Left w S Q w' := by
  have hmf : ∀ (fn : Fn) (first cap : Array Value) (w : World), (Instr.makeFunc fn first cap).run Try.prog w = .ok (.func fn first cap) w := fun _ _ _ _ => rfl
  obtain ⟨W0, hW0⟩ : ∃ W0, (w.alloc (.cells #[.func (.func F) first cap] 41)).alloc (.cells #[.int .i64 0] 3) = W0 := ⟨_, rfl⟩
  have hf0 : Fr Nil w W0 := by rw [← hW0]; exact ((Fr.refl _ w).alloc _).alloc _
  have hsz0 : W0.heap.size = w.heap.size + 2 := by rw [← hW0]; simp
  have b1 : Bk W0 w.heap.size 41 #[.func (.func F) first cap] := by rw [← hW0]; exact (Bk.new w _ _).alloc _
  have b2 : Bk W0 (w.heap.size + 1) 3 #[.int .i64 0] := by rw [← hW0]; exact new' (by simp)
  have hmS : ¬ S (w.heap.size + 1) := fun s => by have := hS _ s; omega
  have hf2 : Fr Nil W0 (W2 W0) := frW2 Nil W0
  have hS' : ∀ k, (S k ∨ k = w.heap.size + 1) → k < W0.heap.size := fun k s => s.elim (fun e => by have := hS k e; omega) (fun e => by omega)
  have hc1 := TrapDInt.code1_ret (m := w.heap.size + 1) hF (b1.fr hf2 id) (b2.fr hf2 id) hmS (h _ (hf0.trans hf2))
  have hc := catchG_ret 35 #[] #[.pointer (some ⟨w.heap.size, 0, none⟩), .pointer (some ⟨w.heap.size + 1, 0, none⟩)] W0 (fun k => S k ∨ k = w.heap.size + 1) hS'
    (fun w2 => ∃ w1, Fr S (W2 W0) w1 ∧ Q (W2 W0) w1 ∧ w2 = w1.setCell ⟨w.heap.size + 1, 0, none⟩ (.int .i64 v)) TrapDInt.enters_code1 (by
      rw [Array.empty_append]
      refine hc1.mono fun e w' ⟨he, w1, hfr, hq, hw'⟩ => ⟨he, ?_, w1, hfr, hq, hw'⟩
      rw [hw']
      exact (hfr.mono (S := fun k => S k ∨ k = w.heap.size + 1) fun i s _ => Or.inl s).setCell (fun _ => Or.inr rfl) _)
  have H := Lib.hid hc
  have HB := Lib.hid (b2.fr hf2 id)
  have HM := Lib.hid hmS
  have HF0 := Lib.hid hf0
  have HSZ := Lib.hid hsz0
  have HS := Lib.hid hS
  clear hS'
  clear h hF hc hc1 b1 b2 hmS hf0 hsz0 hf2 hS
  go_enter Try.func23, Try.ntmps23
  go_wp2_with fail
  refine H.out.mono ?_
  rintro e w1 ⟨rfl, hfr, w2, _, ⟨w3, h3, hq, rfl⟩, h4⟩
  have hsz := HSZ.out
  have hb3 := ((HB.out.fr h3 HM.out).put 0 (.int .i64 v)).fr h4 (by rintro ⟨h, _⟩; omega)
  obtain ⟨d1, g1⟩ := hb3.c1
  have hlt := hb3.lt
  have HFR := Lib.hid hfr
  have HL := Lib.hid (show Fr (fun k => w.heap.size ≤ k ∧ k < (W2 W0).heap.size) w3 w1 from ((Fr.setCell (p := ⟨w.heap.size + 1, 0, none⟩) (Fr.refl (fun k => w.heap.size ≤ k ∧ k < (W2 W0).heap.size) w3) (fun _ => ⟨by show w.heap.size ≤ w.heap.size + 1; omega, by show w.heap.size + 1 < _; simp [W2]; omega⟩) _)).trans (h4.mono fun k hk _ => ⟨by omega, by simp [W2]; omega⟩))
  have H3 := Lib.hid h3
  have HQ := Lib.hid hq
  have HB3 := Lib.hid hb3
  clear hfr h3 hq h4 hsz hb3
  go_wp2_with fail
  have hsz := HSZ.out
  have hb4 := (HB3.out.put 0 (.int .i64 v)).alloc (.cells #[.int .i64 0, .int .i64 0] 60)
  obtain ⟨d2, _⟩ := hb4.c1
  refine bodyPost_ret (v := .tuple #[.int .i64 v, .int .i64 0]) (by simp [results, Try.results23, go_sem, d2]) rfl ⟨rfl, ?_, W2 W0, w3, HF0.out.trans (frW2 Nil W0), H3.out, HQ.out, ?_⟩
  · exact ((((Fr.of_nil (S := S) HF0.out).then HFR.out (fun i s hi => s.elim id (fun e => absurd e (by omega)))).setCell (fun h => absurd h (by simp)) _).alloc _)
  · exact (HL.out.setCell (p := ⟨w.heap.size + 1, 0, none⟩) (fun _ => ⟨by show w.heap.size ≤ w.heap.size + 1; omega, by show w.heap.size + 1 < _; simp [W2]; omega⟩) _).alloc _

set_option maxHeartbeats 1000000 in
theorem ValueG_fault {x c : Int} (hS : ∀ k, S k → k < w.heap.size) (hF : Enters F) (h : RunsG F (first ++ cap) w S (.panicked [fault x c]) Q) :
    Calls Try.prog 23 #[.func (.func F) first cap] w fun e w' => e = .returned (.tuple #[.int .i64 0, .int .i64 c]) ∧ Fr S w w' ∧ TrapG.Left w S Q w' := by
  have hmf : ∀ (fn : Fn) (first cap : Array Value) (w : World), (Instr.makeFunc fn first cap).run Try.prog w = .ok (.func fn first cap) w := fun _ _ _ _ => rfl
  obtain ⟨W0, hW0⟩ : ∃ W0, (w.alloc (.cells #[.func (.func F) first cap] 41)).alloc (.cells #[.int .i64 0] 3) = W0 := ⟨_, rfl⟩
  have hf0 : Fr Nil w W0 := by rw [← hW0]; exact ((Fr.refl _ w).alloc _).alloc _
  have hsz0 : W0.heap.size = w.heap.size + 2 := by rw [← hW0]; simp
  have b1 : Bk W0 w.heap.size 41 #[.func (.func F) first cap] := by rw [← hW0]; exact (Bk.new w _ _).alloc _
  have b2 : Bk W0 (w.heap.size + 1) 3 #[.int .i64 0] := by rw [← hW0]; exact new' (by simp)
  have hf2 : Fr Nil W0 (W2 W0) := frW2 Nil W0
  have hmS : ¬ S (w.heap.size + 1) := fun s => by have := hS _ s; omega
  have hc1 := TrapDInt.code1_fault (m := w.heap.size + 1) hF (b1.fr hf2 id) (h _ (hf0.trans hf2))
  have hc := catchG_fault 35 #[] #[.pointer (some ⟨w.heap.size, 0, none⟩), .pointer (some ⟨w.heap.size + 1, 0, none⟩)] W0 x c S (fun k s => by have := hS k s; omega)
    (Q (W2 W0)) TrapDInt.enters_code1 (by rw [Array.empty_append]; exact hc1)
  have H := Lib.hid hc
  have HB := Lib.hid (b2.fr hf2 id)
  have HM := Lib.hid hmS
  have HF0 := Lib.hid hf0
  have HSZ := Lib.hid hsz0
  clear h hF hc hc1 b1 b2 hmS hf0 hsz0 hf2 hS
  go_enter Try.func23, Try.ntmps23
  go_wp2_with fail
  refine H.out.mono ?_
  rintro e w1 ⟨rfl, hfr, w3, h3, hq, h4⟩
  have hsz := HSZ.out
  have hb3 := (HB.out.fr h3 HM.out).fr h4 (by rintro ⟨h, _⟩; omega)
  obtain ⟨d1, g1⟩ := hb3.c1
  have hlt := hb3.lt
  have HFR := Lib.hid hfr
  have HL := Lib.hid (show Fr (fun k => w.heap.size ≤ k ∧ k < (W2 W0).heap.size) w3 w1 from h4.mono fun k hk _ => ⟨by omega, by simp [W2]; omega⟩)
  have H3 := Lib.hid h3
  have HQ := Lib.hid hq
  have HB3 := Lib.hid hb3
  have hne : ¬ w.heap.size + 1 = w1.heap.size := by omega
  clear hfr h3 hq h4 hsz hb3
  go_wp2_with fail
  go_region
  go_wp2_with fail
  have hsz := HSZ.out
  have hb4 := (HB3.out.put 0 (.int .i64 0)).alloc (.cells #[.int .i64 x, .int .i64 c] 60)
  obtain ⟨d2, _⟩ := hb4.c1
  refine bodyPost_ret (v := .tuple #[.int .i64 0, .int .i64 c]) (by simp [results, Try.results23, go_sem, d2]) rfl ⟨rfl, ?_, W2 W0, w3, HF0.out.trans (frW2 Nil W0), H3.out, HQ.out, ?_⟩
  · have h0 : Fr S w w1 := (Fr.of_nil (S := S) HF0.out).then HFR.out (fun i s hi => s)
    repeat' (with_reducible first | refine Fr.setCell ?_ (fun h => absurd h (by simp)) _ | refine Fr.alloc ?_ _ | refine Fr.drew ?_ | exact h0)
  · have h0 := HL.out
    repeat' (with_reducible first | refine Fr.setCell ?_ (fun _ => ⟨by show w.heap.size ≤ w.heap.size + 1; omega, by show w.heap.size + 1 < _; simp [W2]; omega⟩) _ | refine Fr.alloc ?_ _ | refine Fr.drew ?_ | exact h0)
end
end Go.Proofs.Ytemofdbepalnkaa.TrapV
