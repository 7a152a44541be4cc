/- Contracts of package trap: Value: what a function answers, or the code of what it threw. -/
import Derived.Test.YtemofdbepalnkaaTrapB
import Derived.RegionTactic
namespace Go.Proofs.Ytemofdbepalnkaa.TrapDInt
open Go.RowKit TrapA TrapB Base
set_option linter.unusedVariables false
set_option linter.unusedSimpArgs false

section
variable {F : FuncId} {first cap : Array Value} {w : World} {S : Nat → Prop} {Q : World → Prop}

/-- What is handed to catch by Value: it calls f, and keeps what f answers. -/
theorem code1_ret {n m : Nat} {v : Int} (hF : Enters F) (hn : Bk w n 41 #[.func (.func F) first cap]) (hm : Bk w m 3 #[.int .i64 0]) (hmS : ¬ S m)
    (h : Calls Try.prog F (first ++ cap) w fun e w1 => e = .returned (.int .i64 v) ∧ Fr S w w1 ∧ Q w1) :
    Calls Try.prog 35 #[.pointer (some ⟨n, 0, none⟩), .pointer (some ⟨m, 0, none⟩)] w fun e w' => e = .returned (.tuple #[]) ∧ ∃ w1, Fr S w w1 ∧ Q w1 ∧ w' = w1.setCell ⟨m, 0, none⟩ (.int .i64 v) := by
  have H := Lib.hid h
  unfold Enters at hF
  clear h
  obtain ⟨c1, f1⟩ := hn.c1
  go_enter Try.func35, Try.ntmps35
  go_wp2_with (refine H.out.mono ?_; rintro e w1 ⟨rfl, hfr, hq⟩; obtain ⟨d1, g1⟩ := (hm.fr hfr hmS).c1)
  go_end0
  exact ⟨rfl, w1, hfr, hq, rfl⟩

theorem code1_fault {n m : Nat} {x c : Int} (hF : Enters F) (hn : Bk w n 41 #[.func (.func F) first cap])
    (h : Calls Try.prog F (first ++ cap) w fun e w1 => e = .panicked [fault x c] ∧ Fr S w w1 ∧ Q w1) :
    Calls Try.prog 35 #[.pointer (some ⟨n, 0, none⟩), .pointer (some ⟨m, 0, none⟩)] w fun e w' => e = .panicked [fault x c] ∧ Fr S w w' ∧ Q w' := by
  have H := Lib.hid h
  unfold Enters at hF
  clear h
  obtain ⟨c1, f1⟩ := hn.c1
  go_enter Try.func35, Try.ntmps35
  go_wp2_with (refine H.out.mono ?_; rintro e w1 ⟨rfl, hfr, hq⟩)
  exact ⟨rfl, rfl, hfr, hq⟩

theorem enters_code1 : Enters 35 := fun args w => by simp [go_sem]

theorem runs_code1_ret {v : Int} (hS : ∀ k, S k → k < w.heap.size) (hQ : ∀ a b, Below w.heap.size a b → Q a → Q b) (hF : Enters F) (h : Runs F (first ++ cap) w S (.returned (.int .i64 v)) Q) :
    Runs 35 (#[] ++ #[.pointer (some ⟨w.heap.size, 0, none⟩), .pointer (some ⟨w.heap.size + 1, 0, none⟩)]) ((w.alloc (.cells #[.func (.func F) first cap] 41)).alloc (.cells #[.int .i64 0] 3))
      (fun k => S k ∨ k = w.heap.size + 1) (.returned (.tuple #[])) (fun W => Q W ∧ Bk W (w.heap.size + 1) 3 #[.int .i64 v]) := by
  intro W hW
  have hw2 : Fr Nil w ((w.alloc (.cells #[.func (.func F) first cap] 41)).alloc (.cells #[.int .i64 0] 3)) := ((Fr.refl _ w).alloc _).alloc _
  have b1 := ((Bk.new w 41 #[.func (.func F) first cap]).alloc (.cells #[.int .i64 0] 3)).fr hW (fun s => s.elim)
  have b2 : Bk ((w.alloc (.cells #[.func (.func F) first cap] 41)).alloc (.cells #[.int .i64 0] 3)) (w.heap.size + 1) 3 #[.int .i64 0] := by
    have := Bk.new (w.alloc (.cells #[.func (.func F) first cap] 41)) 3 #[.int .i64 0]
    simpa using this
  have b3 := b2.fr hW (fun s => s.elim)
  have hm : ¬ S (w.heap.size + 1) := fun s => by have := hS _ s; omega
  have hsz := hW.size
  rw [Array.empty_append]
  refine (code1_ret hF b1 b3 hm (h W (hw2.trans hW))).mono fun e w' ⟨he, w1, hfr, hq, hw'⟩ => ⟨he, ?_, ?_, ?_⟩
  · rw [hw']
    exact (hfr.mono (S := fun k => S k ∨ k = w.heap.size + 1) fun i s _ => Or.inl s).setCell (fun _ => Or.inr rfl) _
  · rw [hw']
    exact hQ _ _ ((Below.refl _ _).setCell (Nat.le_succ _) _) hq
  · rw [hw']
    exact (b3.fr hfr hm).put 0 _

theorem runs_code1_fault {x c : Int} (hS : ∀ k, S k → k < w.heap.size) (hF : Enters F) (h : Runs F (first ++ cap) w S (.panicked [fault x c]) Q) :
    Runs 35 (#[] ++ #[.pointer (some ⟨w.heap.size, 0, none⟩), .pointer (some ⟨w.heap.size + 1, 0, none⟩)]) ((w.alloc (.cells #[.func (.func F) first cap] 41)).alloc (.cells #[.int .i64 0] 3))
      S (.panicked [fault x c]) Q := by
  intro W hW
  have hw2 : Fr Nil w ((w.alloc (.cells #[.func (.func F) first cap] 41)).alloc (.cells #[.int .i64 0] 3)) := ((Fr.refl _ w).alloc _).alloc _
  have b1 := ((Bk.new w 41 #[.func (.func F) first cap]).alloc (.cells #[.int .i64 0] 3)).fr hW (fun s => s.elim)
  rw [Array.empty_append]
  exact code1_fault hF b1 (h W (hw2.trans hW))

theorem Value_ret {v : Int} (hS : ∀ k, S k → k < w.heap.size) (hQ : ∀ a b, Below w.heap.size a b → Q a → Q b) (hF : Enters F) (h : Runs F (first ++ cap) w S (.returned (.int .i64 v)) Q) :
    Calls Try.prog 23 #[.func (.func F) first cap] w fun e w' => e = .returned (.tuple #[.int .i64 v, .int .i64 0]) ∧ Fr S w w' ∧ Q w' := by
  have hmf : ∀ (fn : Fn) (first cap : Array Value) (w : World), (Instr.makeFunc fn first cap).run Try.prog w = .ok (.func fn first cap) w := fun _ _ _ _ => rfl
  have H := Lib.hid (ccatch_ret (S := fun k => S k ∨ k = w.heap.size + 1) (Q := fun W => Q W ∧ Bk W (w.heap.size + 1) 3 #[.int .i64 v]) (fun k s => by rcases s with s | rfl; have := hS k s; simp; omega; simp) (fun a b hb hq => ⟨hQ _ _ (hb.mono (by simp; omega)) hq.1, hq.2.below hb (by simp)⟩) enters_code1 (runs_code1_ret hS hQ hF h))
  have HQ := Lib.hid hQ
  clear h hQ hF
  have HS := Lib.hid hS
  clear hS
  go_enter Try.func23, Try.ntmps23
  go_wp2_with (go_at_call 34; refine H.out.mono ?_; rintro e w1 ⟨rfl, hfr, hq, hbk⟩; obtain ⟨d1, g1⟩ := hbk.c1; have hlt := hbk.lt)
  have hb2 := (hbk.put 0 (.int .i64 v)).alloc (.cells #[.int .i64 0, .int .i64 0] 60)
  obtain ⟨d2, _⟩ := hb2.c1
  refine bodyPost_ret (v := .tuple #[.int .i64 v, .int .i64 0]) (by simp [results, Try.results23, go_sem, d2]) rfl ⟨rfl, ?_, HQ.out _ _ ?_ hq⟩
  · exact (((((Fr.refl S w).alloc _).alloc _).then hfr (fun i s hi => s.elim id (fun e => absurd e (by omega)))).setCell (fun h => absurd h (by simp)) _).alloc _
  · exact ((Below.refl _ _).setCell (p := ⟨w.heap.size + 1, 0, none⟩) (Nat.le_succ _) _).alloc (by simp [World.setCell]; omega) _

theorem Value_fault {x c : Int} (hS : ∀ k, S k → k < w.heap.size) (hQ : ∀ a b, Below w.heap.size a b → Q a → Q b) (hF : Enters F) (h : Runs F (first ++ cap) w S (.panicked [fault x c]) Q) :
    Calls Try.prog 23 #[.func (.func F) first cap] w fun e w' => e = .returned (.tuple #[.int .i64 0, .int .i64 c]) ∧ Fr S w w' ∧ Q w' := by
  have hmf : ∀ (fn : Fn) (first cap : Array Value) (w : World), (Instr.makeFunc fn first cap).run Try.prog w = .ok (.func fn first cap) w := fun _ _ _ _ => rfl
  have H := Lib.hid (ccatch_fault (fun k s => by have := hS k s; simp; omega) (fun a b hb hq => hQ _ _ (hb.mono (by simp; omega)) hq) enters_code1 (runs_code1_fault hS hF h))
  have HQ := Lib.hid hQ
  clear h hQ hF
  have HS := Lib.hid hS
  clear hS
  have hb0 : Bk ((w.alloc (.cells #[.func (.func F) first cap] 41)).alloc (.cells #[.int .i64 0] 3)) (w.heap.size + 1) 3 #[.int .i64 0] := by
    have := Bk.new (w.alloc (.cells #[.func (.func F) first cap] 41)) 3 #[.int .i64 0]
    simpa using this
  go_enter Try.func23, Try.ntmps23
  go_wp2_with (go_at_call 34; refine H.out.mono ?_; rintro e w1 ⟨rfl, hfr, hq⟩; have hbk := hb0.fr hfr (fun s => absurd (HS.out _ s) (by omega)); obtain ⟨d1, g1⟩ := hbk.c1; have hlt := hbk.lt)
  have hbk := hb0.fr hfr (fun s => absurd (HS.out _ s) (by omega))
  have hlt := hbk.lt
  go_region
  go_wp2
  have hb2 := (hbk.put 0 (.int .i64 0)).alloc (.cells #[.int .i64 x, .int .i64 c] 60)
  obtain ⟨d2, _⟩ := hb2.drew.c1
  refine bodyPost_ret (v := .tuple #[.int .i64 0, .int .i64 c]) (by simp [results, Try.results23, go_sem, d2]) rfl ⟨rfl, ?_, HQ.out _ _ ?_ hq⟩
  · exact ((((((Fr.refl S w).alloc _).alloc _).trans hfr).setCell (fun h => absurd h (by simp)) _).alloc _).drew
  · exact (((Below.refl _ _).setCell (p := ⟨w.heap.size + 1, 0, none⟩) (Nat.le_succ _) _).alloc (by simp [World.setCell]; omega) _).drew
end
end Go.Proofs.Ytemofdbepalnkaa.TrapDInt
