/- Chapter 30: trap.Value of a reply. -/
import Derived.Test.YtfkjonpbopoiaaaReplyJ
import Derived.Test.YtfkjonpbopoiaaaTrapG
import Derived.RegionTactic
namespace Go.Proofs.Ytfkjonpbopoiaaa.ReplyK
open Go.RowKit Base Slices TrapA TrapB TrapG VintA VintB VintC VintD Quiet ReplyA ReplyD ReplyE ReplyH ReplyI ReplyJ
set_option linter.unusedVariables false
set_option linter.unusedSimpArgs false

abbrev zeroR : Array Value := #[.int .i64 0, .bool false, .bool false, .int .i64 0, .slice none 0 0]
/-- how a call that makes a reply ends -/
def Makes (F : FuncId) (args : Array Value) (w : World) (S : Nat → Prop) (r : Rp) : Prop :=
  ∀ W, Fr Nil w W → Calls Try.prog F args W fun e w1 => ∃ s, e = .returned (rv r s) ∧ Sl EI w1 s r.ids ∧ (∀ k, s.ownBlock = some k → W.heap.size ≤ k) ∧ Fr S W w1

section
variable {F : FuncId} {first cap : Array Value} {w : World} {S : Nat → Prop}

set_option maxHeartbeats 2000000 in
theorem v1_ret {n m : Nat} {r : Rp} (hF : Enters F) (hn : Bk w n 46 #[.func (.func F) first cap]) (hm : Bk w m 27 zeroR) (hmS : ¬ S m)
    (h : Calls Try.prog F (first ++ cap) w fun e w1 => ∃ s, e = .returned (rv r s) ∧ Sl EI w1 s r.ids ∧ (∀ k, s.ownBlock = some k → w.heap.size ≤ k) ∧ Fr S w w1) :
    Calls Try.prog 28 #[.pointer (some ⟨n, 0, none⟩), .pointer (some ⟨m, 0, none⟩)] w fun e w' => e = .returned (.tuple #[]) ∧ Fr (fun k => S k ∨ k = m) w w' ∧ ∃ s, Bk w' m 27 (rc r s) ∧ Sl EI w' s r.ids ∧ ∀ k, s.ownBlock = some k → w.heap.size ≤ k := by
  have H := Lib.hid h
  unfold Enters at hF
  clear h
  obtain ⟨c1, f1⟩ := hn.c1
  have HM := Lib.hid hm
  have HS := Lib.hid hmS
  have hml := hm.lt
  obtain ⟨c, a, l, n0, L⟩ := r
  unfold rv rc at *
  dsimp only at *
  clear hm hmS
  go_enter Try.func28, Try.ntmps28
  go_wp2_with (refine H.out.mono ?_; rintro e w1 ⟨s, rfl, hs, hown, hfr⟩; obtain ⟨As, ks, rfl⟩ := hs.shape; obtain ⟨d0, d1, d2, d3, d4, g0, g1, g2, g3, g4⟩ := (HM.out.fr hfr HS.out).c5)
  have hM1 := HM.out.fr hfr HS.out
  have HW := Lib.hid (show Fr (fun k => k = m) w1 (((((w1.setCell ⟨m, 0, none⟩ (.int .i64 c)).setCell ⟨m, 1, none⟩ (.bool a)).setCell ⟨m, 2, none⟩ (.bool l)).setCell ⟨m, 3, none⟩ (.int .i64 n0)).setCell ⟨m, 4, none⟩ (.slice As L.length ks)) by
    refine Fr.setCell (S := fun k => k = m) ?_ (fun _ => rfl) _
    refine Fr.setCell (S := fun k => k = m) ?_ (fun _ => rfl) _
    refine Fr.setCell (S := fun k => k = m) ?_ (fun _ => rfl) _
    refine Fr.setCell (S := fun k => k = m) ?_ (fun _ => rfl) _
    refine Fr.setCell (S := fun k => k = m) ?_ (fun _ => rfl) _
    exact Fr.refl _ _)
  go_end0
  exact ⟨rfl, (hfr.mono fun i s _ => Or.inl s).trans (HW.out.mono fun i s _ => Or.inr s), _, ((((hM1.put 0 _).put 1 _).put 2 _).put 3 _).put 4 _, hs.frS HW.out (fun k hk hk2 => by have := hown k hk; omega), hown⟩

theorem v1_fault {n m : Nat} {x c : Int} (hF : Enters F) (hn : Bk w n 46 #[.func (.func F) first cap])
    (h : Calls Try.prog F (first ++ cap) w fun e w1 => e = .panicked [fault x c] ∧ Fr S w w1) :
    Calls Try.prog 28 #[.pointer (some ⟨n, 0, none⟩), .pointer (some ⟨m, 0, none⟩)] w fun e w' => e = .panicked [fault x c] ∧ Fr S w w' ∧ True := by
  have H := Lib.hid h
  unfold Enters at hF
  clear h
  obtain ⟨c1, f1⟩ := hn.c1
  go_enter Try.func28, Try.ntmps28
  go_wp2_with (refine H.out.mono ?_; rintro e w1 ⟨rfl, hfr⟩)
  exact ⟨rfl, rfl, hfr, trivial⟩
theorem enters_v1 : Enters 28 := fun args w => by simp [go_sem]

set_option maxRecDepth 100000 in
set_option maxHeartbeats 4000000 in
theorem Value_ok {r : Rp} (hS : ∀ k, S k → k < w.heap.size) (hF : Enters F) (h : Makes F (first ++ cap) w S r) :
    Calls Try.prog 20 #[.func (.func F) first cap] w fun e w' => ∃ s, e = .returned (.tuple #[rv r s, .int .i64 0]) ∧ Sl EI w' s r.ids ∧ (∀ k, s.ownBlock = some k → w.heap.size ≤ k) ∧ Fr S w w' := by
  have hmf : ∀ (fn : Fn) (first cap : Array Value) (w : World), (Instr.makeFunc fn first cap).run Try.prog w = .ok (.func fn first cap) w := fun _ _ _ _ => rfl
  obtain ⟨W0, hW0⟩ : ∃ W0, ((w.alloc (.cells #[.func (.func F) first cap] 46)).alloc (.cells zeroR 27)).alloc (.cells zeroR 27) = W0 := ⟨_, rfl⟩
  have hf0 : Fr Nil w W0 := by rw [← hW0]; exact (((Fr.refl _ w).alloc _).alloc _).alloc _
  have hsz0 : W0.heap.size = w.heap.size + 3 := by rw [← hW0]; simp
  have b1 : Bk W0 w.heap.size 46 #[.func (.func F) first cap] := by rw [← hW0]; exact ((Bk.new w _ _).alloc _).alloc _
  have b2 : Bk W0 (w.heap.size + 1) 27 zeroR := by rw [← hW0]; exact (new' (by simp)).alloc _
  have hmS : ¬ S (w.heap.size + 1) := fun s => by have := hS _ s; omega
  have hf2 : Fr Nil W0 (W2 W0) := frW2 Nil W0
  have hS' : ∀ k, (S k ∨ k = w.heap.size + 1) → k < W0.heap.size := fun k s => s.elim (fun e => by have := hS k e; omega) (fun e => by omega)
  have hc1 := v1_ret (m := w.heap.size + 1) hF (b1.fr hf2 id) (b2.fr hf2 id) hmS (h _ (hf0.trans hf2))
  have hc := catchG_ret 28 #[] #[.pointer (some ⟨w.heap.size, 0, none⟩), .pointer (some ⟨w.heap.size + 1, 0, none⟩)] W0 (fun k => S k ∨ k = w.heap.size + 1) hS'
    (fun w2 => ∃ s, Bk w2 (w.heap.size + 1) 27 (rc r s) ∧ Sl EI w2 s r.ids ∧ ∀ k, s.ownBlock = some k → (W2 W0).heap.size ≤ k) enters_v1 (by rw [Array.empty_append]; exact hc1)
  have H := Lib.hid hc
  have HF0 := Lib.hid hf0
  have HSZ := Lib.hid hsz0
  have HS := Lib.hid hS
  have HW2 := Lib.hid (show (W2 W0).heap.size = W0.heap.size + 2 by simp [W2])
  clear hS' h hF hc hc1 b1 b2 hmS hf0 hsz0 hf2 hS
  obtain ⟨c, a, l, n0, L⟩ := r
  unfold rv rc at *
  dsimp only at *
  go_enter Try.func20, Try.ntmps20
  go_wp2_with fail
  refine H.out.mono ?_
  rintro e w1 ⟨rfl, hfr, w2, _, ⟨s, h3, h4, h5⟩, h6⟩
  obtain ⟨As, ks, rfl⟩ := h4.shape
  have hsz := HSZ.out
  have hw2 := HW2.out
  have HB := Lib.hid (h3.fr h6 (by rintro ⟨h, _⟩; omega))
  have HSl := Lib.hid (h4.frS h6 (fun k hk hs => by have := h5 k hk; omega))
  have HO := Lib.hid h5
  have HFR := Lib.hid (show Fr S w w1 from (Fr.of_nil (S := S) HF0.out).then hfr (fun i s hi => s.elim id (fun e => absurd e (by omega))))
  obtain ⟨d0, d1, d2, d3, d4, g0, g1, g2, g3, g4⟩ := HB.out.c5
  have hlt := HB.out.lt
  clear hfr h3 h4 h5 h6 hsz hw2
  go_wp2_with fail
  have HK := Lib.hid ((((((HB.out.put 0 (.int .i64 c)).put 1 (.bool a)).put 2 (.bool l)).put 3 (.int .i64 n0)).put 4 (.slice As L.length ks)).alloc (.cells #[.int .i64 0, .int .i64 0] 51))
  have HW := Lib.hid (show Fr (fun k => k = w.heap.size + 1) w1 ((((((w1.setCell ⟨w.heap.size + 1, 0, none⟩ (.int .i64 c)).setCell ⟨w.heap.size + 1, 1, none⟩ (.bool a)).setCell ⟨w.heap.size + 1, 2, none⟩ (.bool l)).setCell ⟨w.heap.size + 1, 3, none⟩ (.int .i64 n0)).setCell ⟨w.heap.size + 1, 4, none⟩ (.slice As L.length ks)).alloc (.cells #[.int .i64 0, .int .i64 0] 51)) by
    refine Fr.alloc ?_ _
    refine Fr.setCell (S := fun k => k = w.heap.size + 1) ?_ (fun _ => rfl) _
    refine Fr.setCell (S := fun k => k = w.heap.size + 1) ?_ (fun _ => rfl) _
    refine Fr.setCell (S := fun k => k = w.heap.size + 1) ?_ (fun _ => rfl) _
    refine Fr.setCell (S := fun k => k = w.heap.size + 1) ?_ (fun _ => rfl) _
    refine Fr.setCell (S := fun k => k = w.heap.size + 1) ?_ (fun _ => rfl) _
    exact Fr.refl _ _)
  generalize ((((((w1.setCell ⟨w.heap.size + 1, 0, none⟩ (.int .i64 c)).setCell ⟨w.heap.size + 1, 1, none⟩ (.bool a)).setCell ⟨w.heap.size + 1, 2, none⟩ (.bool l)).setCell ⟨w.heap.size + 1, 3, none⟩ (.int .i64 n0)).setCell ⟨w.heap.size + 1, 4, none⟩ (.slice As L.length ks)).alloc (.cells #[.int .i64 0, .int .i64 0] 51)) = W at HW HK ⊢
  have k0 := HK.out.cell 0
  have k1 := HK.out.cell 1
  have k2 := HK.out.cell 2
  have k3 := HK.out.cell 3
  have k4 := HK.out.cell 4
  simp at k0 k1 k2 k3 k4
  exact bodyPost_ret (v := .tuple #[.agg #[.int .i64 c, .bool a, .bool l, .int .i64 n0, .slice As L.length ks], .int .i64 0]) (by simp [results, Try.results20, go_sem, k0, k1, k2, k3, k4]) rfl ⟨_, rfl, HSl.out.frS HW.out (fun k hk hs => by have := HO.out k hk; have := HW2.out; have := HSZ.out; omega), fun k hk => by have := HO.out k hk; have := HW2.out; have := HSZ.out; omega, HFR.out.then HW.out (fun k hk hlt => by omega)⟩

set_option maxRecDepth 100000 in
set_option maxHeartbeats 4000000 in
theorem Value_bad {x c : Int} (hS : ∀ k, S k → k < w.heap.size) (hF : Enters F) (h : ∀ W, Fr Nil w W → Calls Try.prog F (first ++ cap) W fun e w1 => e = .panicked [fault x c] ∧ Fr S W w1) :
    Calls Try.prog 20 #[.func (.func F) first cap] w fun e w' => e = .returned (.tuple #[.agg zeroR, .int .i64 c]) ∧ Fr S w w' := by
  have hmf : ∀ (fn : Fn) (first cap : Array Value) (w : World), (Instr.makeFunc fn first cap).run Try.prog w = .ok (.func fn first cap) w := fun _ _ _ _ => rfl
  obtain ⟨W0, hW0⟩ : ∃ W0, ((w.alloc (.cells #[.func (.func F) first cap] 46)).alloc (.cells zeroR 27)).alloc (.cells zeroR 27) = W0 := ⟨_, rfl⟩
  have hf0 : Fr Nil w W0 := by rw [← hW0]; exact (((Fr.refl _ w).alloc _).alloc _).alloc _
  have hsz0 : W0.heap.size = w.heap.size + 3 := by rw [← hW0]; simp
  have b1 : Bk W0 w.heap.size 46 #[.func (.func F) first cap] := by rw [← hW0]; exact ((Bk.new w _ _).alloc _).alloc _
  have b2 : Bk W0 (w.heap.size + 1) 27 zeroR := by rw [← hW0]; exact (new' (by simp)).alloc _
  have b3 : Bk W0 (w.heap.size + 2) 27 zeroR := by rw [← hW0]; exact new' (by simp)
  have hmS : ¬ S (w.heap.size + 1) := fun s => by have := hS _ s; omega
  have hmS2 : ¬ S (w.heap.size + 2) := fun s => by have := hS _ s; omega
  have hf2 : Fr Nil W0 (W2 W0) := frW2 Nil W0
  have hc1 := v1_fault (m := w.heap.size + 1) hF (b1.fr hf2 id) (h _ (hf0.trans hf2))
  have hc := catchG_fault 28 #[] #[.pointer (some ⟨w.heap.size, 0, none⟩), .pointer (some ⟨w.heap.size + 1, 0, none⟩)] W0 x c S (fun k s => by have := hS k s; omega)
    (fun _ => True) enters_v1 (by rw [Array.empty_append]; exact hc1)
  have H := Lib.hid hc
  have HB2 := Lib.hid b2
  have HB3 := Lib.hid b3
  have HM := Lib.hid hmS
  have HM2 := Lib.hid hmS2
  have HF0 := Lib.hid hf0
  have HSZ := Lib.hid hsz0
  clear h hF hc hc1 b1 b2 b3 hmS hmS2 hf0 hsz0 hf2 hS
  go_enter Try.func20, Try.ntmps20
  go_wp2_with fail
  refine H.out.mono ?_
  rintro e w1 ⟨rfl, hfr, _⟩
  have HB := Lib.hid (HB2.out.fr hfr HM.out)
  have HC := Lib.hid (HB3.out.fr hfr HM2.out)
  have HFR := Lib.hid ((Fr.of_nil (S := S) HF0.out).trans hfr)
  obtain ⟨d0, d1, d2, d3, d4, g0, g1, g2, g3, g4⟩ := HB.out.c5
  obtain ⟨c0, c1, c2, c3, c4, _⟩ := HC.out.c5
  have hlt := HC.out.lt
  have hne1 : ¬ w.heap.size + 1 = w1.heap.size := by omega
  have hne2 : ¬ w.heap.size + 2 = w1.heap.size := by omega
  have HBd := Lib.hid (HB.out.alloc (.cells #[.int .i64 x, .int .i64 c] 51))
  have HCd := Lib.hid (HC.out.alloc (.cells #[.int .i64 x, .int .i64 c] 51))
  have HN := Lib.hid (Bk.new w1 51 #[.int .i64 x, .int .i64 c])
  have HFf := Lib.hid (HFR.out.alloc (.cells #[.int .i64 x, .int .i64 c] 51))
  clear hfr
  go_wp2_with fail
  clear d0 d1 d2 d3 d4 g0 g1 g2 g3 g4 c0 c1 c2 c3 c4
  generalize w1.alloc (.cells #[.int .i64 x, .int .i64 c] 51) = wf at HBd HCd HN HFf ⊢
  obtain ⟨d0, d1, d2, d3, d4, g0, g1, g2, g3, g4⟩ := HBd.out.c5
  obtain ⟨c0, c1, c2, c3, c4, _⟩ := HCd.out.c5
  obtain ⟨l0, l1, _⟩ := HN.out.c2
  have d0' := HBd.out.drew.c5
  have c0' := HCd.out.drew.c5
  have l0' := HN.out.drew.c2
  obtain ⟨p0, p1, p2, p3, p4, q0, q1, q2, q3, q4⟩ := d0'
  obtain ⟨r0, r1, r2, r3, r4, _⟩ := c0'
  obtain ⟨m0, m1, _⟩ := l0'
  go_region
  all_goals
    go_wp2_with fail
    have HK := Lib.hid ((((((HBd.out.put 0 (.int .i64 0)).put 1 (.bool false)).put 2 (.bool false)).put 3 (.int .i64 0)).put 4 (.slice none 0 0)).drew)
    have HW := Lib.hid (show Fr S w ((((((wf.setCell ⟨w.heap.size + 1, 0, none⟩ (.int .i64 0)).setCell ⟨w.heap.size + 1, 1, none⟩ (.bool false)).setCell ⟨w.heap.size + 1, 2, none⟩ (.bool false)).setCell ⟨w.heap.size + 1, 3, none⟩ (.int .i64 0)).setCell ⟨w.heap.size + 1, 4, none⟩ (.slice none 0 0)).drew) by
      refine Fr.drew ?_
      refine Fr.setCell ?_ (fun h => absurd h (by simp)) _
      refine Fr.setCell ?_ (fun h => absurd h (by simp)) _
      refine Fr.setCell ?_ (fun h => absurd h (by simp)) _
      refine Fr.setCell ?_ (fun h => absurd h (by simp)) _
      refine Fr.setCell ?_ (fun h => absurd h (by simp)) _
      exact HFf.out)
    generalize ((((((wf.setCell ⟨w.heap.size + 1, 0, none⟩ (.int .i64 0)).setCell ⟨w.heap.size + 1, 1, none⟩ (.bool false)).setCell ⟨w.heap.size + 1, 2, none⟩ (.bool false)).setCell ⟨w.heap.size + 1, 3, none⟩ (.int .i64 0)).setCell ⟨w.heap.size + 1, 4, none⟩ (.slice none 0 0)).drew) = W at HW HK ⊢
    have k0 := HK.out.cell 0
    have k1 := HK.out.cell 1
    have k2 := HK.out.cell 2
    have k3 := HK.out.cell 3
    have k4 := HK.out.cell 4
    simp at k0 k1 k2 k3 k4
    exact bodyPost_ret (v := .tuple #[.agg zeroR, .int .i64 c]) (by simp [results, Try.results20, go_sem, k0, k1, k2, k3, k4]) rfl ⟨rfl, HW.out⟩
end
end Go.Proofs.Ytfkjonpbopoiaaa.ReplyK
