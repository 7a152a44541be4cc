/- Chapter 10: the walks of Walk and of the law StackParts. -/
import Derived.Test.YtgibhgppfmbnaaaStackI
import Derived.Deep.RegionWith
namespace Go.Proofs.Ytgibhgppfmbnaaa.StackJ
open Go.RowKit Base Slices Quiet StackA StackB StackC StackD StackE StackG StackH StackI TrapA TrapB TrapG
set_option linter.unusedVariables false
set_option linter.unusedSimpArgs false

/-- what is true at each round of a walk -/
def WalkRel (w : World) (g wg vg : Nat) (v sv : Value) (l seen : List Int) (m most k : Nat) (wr : World) : Prop :=
  ∃ j v' sv', k = m - j ∧ j ≤ m ∧ Wst wr g wg vg v' sv' (it j (seen, l)).2 (it j (seen, l)).1 j most ∧ (it j (seen, l)).1.length = seen.length + j ∧ Fr (WF g wg vg v sv) w wr ∧ ∀ k, WF g wg vg v' sv' k → WF g wg vg v sv k ∨ w.heap.size ≤ k
/-- what a walk leaves -/
def Walked (w : World) (g wg vg : Nat) (v sv : Value) (l seen : List Int) (m most : Nat) (w' : World) : Prop :=
  StackI.Stepped w g wg vg v sv (it m (seen, l)).2 (it m (seen, l)).1 ((it m (seen, l)).1.length - seen.length) most w'

section
variable (w : World)
set_option maxRecDepth 100000 in
set_option maxHeartbeats 8000000 in
theorem walk1_any {g wg vg wb sb : Nat} {v sv : Value} {l seen : List Int} {m most : Nat} (h : Wst w g wg vg v sv l seen 0 most) (hl : Low l) (hm1 : 32 ≤ most) (hm2 : most ≤ 65536) (hs : seen.length ≤ 1000) (hm : m ≤ 1000)
    (hwb : Bk w wb 56 #[.pointer (some ⟨wg, 0, none⟩)]) (hsb : Bk w sb 3 #[.int .i64 (m : Int)]) (ha : ¬ WF g wg vg v sv wb) (hb : ¬ WF g wg vg v sv sb) :
    Calls Try.prog 25 #[.pointer (some ⟨wb, 0, none⟩), .pointer (some ⟨sb, 0, none⟩)] w fun e w' => e = .returned (.tuple #[]) ∧ Fr (WF g wg vg v sv) w w' ∧ Walked w g wg vg v sv l seen m most w' := by
  have H := Lib.hid h
  have HL := Lib.hid hl
  have HM := Lib.hid (And.intro hm1 hm2)
  have HS := Lib.hid hs
  have HWB := Lib.hid hwb
  have HSB := Lib.hid hsb
  have HA := Lib.hid ha
  have HB := Lib.hid hb
  have hmi : (m : Int) ≤ 1000 := by omega
  clear h hl hm1 hm2 hs hwb hsb ha hb
  go_enter Try.func25, Try.ntmps25
  go_wp2_with fail
  go_loopg [] m (fun k wr => WalkRel w g wg vg v sv l seen m most k wr)
  case atStart => exact ⟨0, v, sv, by omega, Nat.zero_le _, H.out, by simp [it], Fr.refl _ _, fun k hk => Or.inl hk⟩
  case round =>
    obtain ⟨j, v', sv', hk, hj, hst, hlen, hf, hfo⟩ := hrel
    obtain ⟨b0, _⟩ := (HWB.out.fr hf HA.out).c1
    obtain ⟨b1, _⟩ := (HSB.out.fr hf HB.out).c1
    obtain ⟨c0, c1, c2, _, _, _⟩ := hst.2.1.c3
    obtain ⟨⟨se, le⟩, hse⟩ : ∃ p, it j (seen, l) = p := ⟨_, rfl⟩
    rw [hse] at hst hlen
    dsimp only at hst hlen
    have hlow := HL.out.it (n := j) (a := seen)
    rw [hse] at hlow
    dsimp only at hlow
    have HSE := Lib.hid hse
    have HF := Lib.hid hf
    have HFO := Lib.hid hfo
    have HST := Lib.hid hst
    have HLEN := Lib.hid hlen
    have hj0 : (0 : Int) ≤ j := by omega
    have hg := hst.2.1.lt
    rcases Nat.lt_or_ge j m with hjm | hjm
    · have hji : (j : Int) < m := by omega
      rcases StackG.snoc_cases le with rfl | ⟨l0, x, rfl⟩
      · have HLOW := Lib.hid hlow
        clear hse hf hfo hst hlen hlow
        go_wp2_with fail
        go_region_with (go_at_call 26; refine (step_nil _ (HST.out.nil (by (repeat' (with_reducible first | refine Fr.setCell ?_ (fun hlt => absurd hlt (by dsimp only; omega)) _ | refine Fr.alloc ?_ _ | refine Fr.drewN ?_ _ | refine Fr.drew ?_ | exact Fr.refl _ _))))).mono ?_; rintro e w1 ⟨rfl, hf1⟩)
        all_goals
          have HF1 := Lib.hid hf1
          clear hf1
          go_wp2_with fail
          go_end0
          have e : it m (seen, l) = (se, []) := by rw [show m = j + (m - j) by omega, it_add, HSE.out, it_nil]
          have hfr := HF.out.trans (S := WF g wg vg v sv) (Fr.trans (by (repeat' (with_reducible first | refine Fr.setCell ?_ (fun hlt => absurd hlt (by dsimp only; omega)) _ | refine Fr.alloc ?_ _ | refine Fr.drewN ?_ _ | refine Fr.drew ?_ | exact Fr.refl _ _))) HF1.out).of_nil
          refine ⟨rfl, hfr, ?_⟩
          unfold Walked
          rw [e]
          dsimp only
          have e2 : se.length - seen.length = j := by have := HLEN.out; omega
          rw [e2]
          exact ⟨v', sv', HST.out.nil (Fr.trans (by (repeat' (with_reducible first | refine Fr.setCell ?_ (fun hlt => absurd hlt (by dsimp only; omega)) _ | refine Fr.alloc ?_ _ | refine Fr.drewN ?_ _ | refine Fr.drew ?_ | exact Fr.refl _ _))) HF1.out), hfr, HFO.out⟩
      · have HLOW := Lib.hid hlow
        clear hse hf hfo hst hlen hlow
        go_wp2_with fail
        go_region_with (go_at_call 26; refine (step_any _ (HST.out.nil (by (repeat' (with_reducible first | refine Fr.setCell ?_ (fun hlt => absurd hlt (by dsimp only; omega)) _ | refine Fr.alloc ?_ _ | refine Fr.drewN ?_ _ | refine Fr.drew ?_ | exact Fr.refl _ _)))) (by have := HLOW.out.len; have := HM.out.1; rw [List.length_append, List.length_singleton] at *; omega) HM.out.2 (by have := HLEN.out; have := HS.out; omega) (by omega)).mono ?_; rintro e w1 ⟨rfl, hst1⟩)
        all_goals
          have HT1 := Lib.hid hst1
          clear hst1
          go_wp2_with fail
          go_roundg (m - (j + 1))
          case rel =>
            obtain ⟨v1, sv1, t1, t2, t3⟩ := HT1.out
            have e : it (j + 1) (seen, l) = (se ++ [x], l0 ++ (kids x).reverse) := by rw [it_succ, HSE.out, st_snoc]
            refine ⟨j + 1, v1, sv1, rfl, by omega, ?_, ?_, ?_, ?_⟩
            · rw [e]; exact t1
            · rw [e]; have := HLEN.out; simp; omega
            · exact HF.out.then (T := WF g wg vg v' sv') (Fr.trans (by (repeat' (with_reducible first | refine Fr.setCell ?_ (fun hlt => absurd hlt (by dsimp only; omega)) _ | refine Fr.alloc ?_ _ | refine Fr.drewN ?_ _ | refine Fr.drew ?_ | exact Fr.refl _ _))) t2) (fun i hi hlt => (HFO.out i hi).elim id fun h2 => by omega)
            · intro k hk
              rcases t3 k hk with h1 | h1
              · exact HFO.out k h1
              · exact Or.inr (by have := HF.out.size; simp at h1; omega)
          case measure => omega
    · obtain rfl : j = m := by omega
      clear hse hf hfo hst hlen hlow
      go_wp2_with fail
      go_quiet (fail)
      go_wp2_with fail
      go_end0
      have hfr : Fr (WF g wg vg v sv) w (wr.drewN nq) := HF.out.drewN _
      refine ⟨rfl, hfr, ?_⟩
      unfold Walked
      rw [HSE.out]
      dsimp only
      have e2 : se.length - seen.length = j := by have := HLEN.out; omega
      rw [e2]
      exact ⟨v', sv', HST.out.nil ((Fr.refl Nil wr).drewN _), hfr, HFO.out⟩
end
/-- the state behind Catch -/
theorem Walked.left {w w' : World} {g wg vg : Nat} {v sv : Value} {l seen : List Int} {m most : Nat} {S : Nat → Prop} (hS : ∀ k, WF g wg vg v sv k → k < w.heap.size) (h : TrapG.Left w S (fun W w1 => Walked W g wg vg v sv l seen m most w1) w') :
    ∃ v' sv', Wst w' g wg vg v' sv' (it m (seen, l)).2 (it m (seen, l)).1 ((it m (seen, l)).1.length - seen.length) most ∧ ∀ k, WF g wg vg v' sv' k → WF g wg vg v sv k ∨ w.heap.size ≤ k := by
  obtain ⟨W, w1, h1, h2, ⟨v', sv', h3, h4, h5⟩, h6⟩ := h
  refine ⟨v', sv', h3.fr h6 ?_, fun k hk => (h5 k hk).imp id fun e => Nat.le_trans h1.size e⟩
  rintro k hk ⟨s1, s2⟩
  rcases h5 k hk with e | e
  · have := hS k e
    omega
  · omega

/-- the blocks of a stack and of a visitor -/
def F2 (g vg : Nat) (v sv : Value) : Nat → Prop := fun k => k = g ∨ k = vg ∨ v.ownBlock = some k ∨ sv.ownBlock = some k
/-- the state around a walk -/
def Two (w : World) (g vg : Nat) (v sv : Value) (l seen : List Int) (most : Nat) : Prop := Stk w g v l most ∧ Vis w vg sv seen ∧ ∀ k, v.ownBlock = some k → sv.ownBlock ≠ some k
theorem Two.lt {w : World} {g vg : Nat} {v sv : Value} {l seen : List Int} {most : Nat} (h : Two w g vg v sv l seen most) : ∀ k, F2 g vg v sv k → k < w.heap.size := by
  rintro k (rfl | rfl | hk | hk)
  · exact h.1.1.lt
  · exact h.2.1.1.lt
  · exact (h.1.2.lt k hk).2
  · exact (h.2.1.2.lt k hk).2
theorem Two.fr {w w' : World} {g vg : Nat} {v sv : Value} {l seen : List Int} {most : Nat} {S : Nat → Prop} (h : Two w g vg v sv l seen most) (hf : Fr S w w') (hs : ∀ k, F2 g vg v sv k → ¬ S k) : Two w' g vg v sv l seen most :=
  ⟨h.1.fr hf fun k hk => hs k (hk.elim Or.inl fun e => Or.inr (Or.inr (Or.inl e))), h.2.1.fr hf fun k hk => hs k (hk.elim (fun e => Or.inr (Or.inl e)) fun e => Or.inr (Or.inr (Or.inr e))), h.2.2⟩
/-- what Walk leaves -/
def Gone (w : World) (g vg : Nat) (v sv : Value) (l seen : List Int) (most : Nat) (w' : World) : Prop :=
  ∃ v' sv', Two w' g vg v' sv' l seen most ∧ Fr (F2 g vg v sv) w w' ∧ ∀ k, F2 g vg v' sv' k → F2 g vg v sv k ∨ w.heap.size ≤ k

section
variable (w : World)
theorem enters_walk1 : Enters 25 := fun _ _ => by simp [go_sem]
set_option maxRecDepth 100000 in
set_option maxHeartbeats 8000000 in
theorem Walk_any {g vg : Nat} {v sv : Value} {l seen : List Int} {m most : Nat} (h : Two w g vg v sv l seen most) (hl : Low l) (hm1 : 32 ≤ most) (hm2 : most ≤ 65536) (hs : seen.length ≤ 1000) (hm : m ≤ 1000) :
    Calls Try.prog 17 #[.pointer (some ⟨g, 0, none⟩), .int .i64 (m : Int), .func (.func 18) #[.pointer (some ⟨vg, 0, none⟩)] #[]] w fun e w' =>
      e = .returned (.tuple #[.int .i64 (((it m (seen, l)).1.length - seen.length : Nat) : Int), .int .i64 0]) ∧ Gone w g vg v sv (it m (seen, l)).2 (it m (seen, l)).1 most w' := by
  obtain ⟨W0, hW0⟩ : ∃ W0, ((w.alloc (.cells #[.int .i64 (m : Int)] 3)).alloc (.cells #[.pointer (some ⟨g, 0, none⟩), .func (.func 18) #[.pointer (some ⟨vg, 0, none⟩)] #[], .int .i64 0] 58)).alloc (.cells #[.pointer (some ⟨w.heap.size + 1, 0, none⟩)] 56) = W0 := ⟨_, rfl⟩
  have hf0 : Fr Nil w W0 := by rw [← hW0]; (repeat' (with_reducible first | refine Fr.setCell ?_ (fun hlt => absurd hlt (by dsimp only; omega)) _ | refine Fr.alloc ?_ _ | refine Fr.drewN ?_ _ | refine Fr.drew ?_ | exact Fr.refl _ _))
  have hb1 : Bk W0 w.heap.size 3 #[.int .i64 (m : Int)] := by rw [← hW0]; (repeat' (first | ((with_reducible refine new' ?_); simp; done) | with_reducible refine Bk.alloc ?_ _ | with_reducible refine Bk.far ?_ (by dsimp only; omega) _ | with_reducible refine Bk.drewN ?_ _ | with_reducible refine Bk.drew ?_))
  have hb2 : Bk W0 (w.heap.size + 1) 58 #[.pointer (some ⟨g, 0, none⟩), .func (.func 18) #[.pointer (some ⟨vg, 0, none⟩)] #[], .int .i64 0] := by rw [← hW0]; (repeat' (first | ((with_reducible refine new' ?_); simp; done) | with_reducible refine Bk.alloc ?_ _ | with_reducible refine Bk.far ?_ (by dsimp only; omega) _ | with_reducible refine Bk.drewN ?_ _ | with_reducible refine Bk.drew ?_))
  have hb3 : Bk W0 (w.heap.size + 1 + 1) 56 #[.pointer (some ⟨w.heap.size + 1, 0, none⟩)] := by rw [← hW0]; (repeat' (first | ((with_reducible refine new' ?_); simp; done) | with_reducible refine Bk.alloc ?_ _ | with_reducible refine Bk.far ?_ (by dsimp only; omega) _ | with_reducible refine Bk.drewN ?_ _ | with_reducible refine Bk.drew ?_))
  have h2 := h.lt
  have hst : Wst W0 g (w.heap.size + 1) vg v sv l seen 0 most := ⟨h.1.nil hf0, hb2, h.2.1.nil hf0, h.2.2⟩
  have hout : ∀ k, w.heap.size ≤ k → k ≠ w.heap.size + 1 → ¬ WF g (w.heap.size + 1) vg v sv k := fun k hk hk' s => by
    rcases s with s | s | s | s | s
    · have := h2 k (Or.inl s); omega
    · exact hk' s
    · have := h2 k (Or.inr (Or.inl s)); omega
    · have := h2 k (Or.inr (Or.inr (Or.inl s))); omega
    · have := h2 k (Or.inr (Or.inr (Or.inr s))); omega
  have hrun : RunsG 25 (#[] ++ #[.pointer (some ⟨w.heap.size + 1 + 1, 0, none⟩), .pointer (some ⟨w.heap.size, 0, none⟩)]) W0 (WF g (w.heap.size + 1) vg v sv) (.returned (.tuple #[])) (fun W w1 => Walked W g (w.heap.size + 1) vg v sv l seen m most w1) := fun W hW =>
    walk1_any W (hst.nil hW) hl hm1 hm2 hs hm (hb3.fr hW id) (hb1.fr hW id) (hout _ (by omega) (by omega)) (hout _ (by omega) (by omega))
  have HC := Lib.hid (CatchG_ret hst.lt enters_walk1 hrun)
  have HLT := Lib.hid hst.lt
  have HF0 := Lib.hid hf0
  have HB3 := Lib.hid hb3
  have HOUT := Lib.hid hout
  have H2 := Lib.hid h2
  have HB1 := Lib.hid hb1
  have hmi : (0 : Int) ≤ m := by omega
  have hfn : ∀ W, (binOp .eql 45 (.func (.func 18) #[.pointer (some ⟨vg, 0, none⟩)] #[]) .nilFunc).run Try.prog W = .ok (.bool false) W := fun W => by kernel_rfl
  clear hrun hst hf0 hb1 hb2 hb3 h hl hm1 hm2 hs hm hout h2
  go_enter Try.func17, Try.ntmps17
  go_wp2_with fail
  refine HC.out.mono ?_
  rintro e w1 ⟨rfl, hf1, hL⟩
  obtain ⟨v', sv', hst1, hfo⟩ := Walked.left HLT.out hL
  obtain ⟨b0, _⟩ := (HB3.out.fr hf1 (HOUT.out _ (by omega) (by omega))).c1
  obtain ⟨c0, c1, c2, _, _, _⟩ := hst1.2.1.c3
  have hl1 : w.heap.size + 1 < w1.heap.size := hst1.2.1.lt
  have hl2 : w.heap.size + 1 + 1 < w1.heap.size := (HB3.out.fr hf1 (HOUT.out _ (by omega) (by omega))).lt
  have HST1 := Lib.hid hst1
  have HFO := Lib.hid hfo
  have HF1 := Lib.hid hf1
  clear hst1 hfo hf1 hL
  go_wp2_with fail
  go_quiet (fail)
  go_wp2_with fail
  have g1 : Fr (F2 g vg v sv) w w1 := (Fr.of_nil (S := F2 g vg v sv) HF0.out).then HF1.out (fun i hi hlt => by
    rcases hi with s | s | s | s | s
    · exact Or.inl s
    · omega
    · exact Or.inr (Or.inl s)
    · exact Or.inr (Or.inr (Or.inl s))
    · exact Or.inr (Or.inr (Or.inr s)))
  refine bodyPost_ret (v := .tuple #[.int .i64 (((it m (seen, l)).1.length - seen.length : Nat) : Int), .int .i64 0]) (by simp [results, Try.results17, go_sem]) rfl ⟨rfl, v', sv', ⟨HST1.out.1.nil (by (repeat' (with_reducible first | refine Fr.setCell ?_ (fun hlt => absurd hlt (by dsimp only; omega)) _ | refine Fr.alloc ?_ _ | refine Fr.drewN ?_ _ | refine Fr.drew ?_ | exact Fr.refl _ _))), HST1.out.2.2.1.nil (by (repeat' (with_reducible first | refine Fr.setCell ?_ (fun hlt => absurd hlt (by dsimp only; omega)) _ | refine Fr.alloc ?_ _ | refine Fr.drewN ?_ _ | refine Fr.drew ?_ | exact Fr.refl _ _))), HST1.out.2.2.2⟩, by (repeat' (with_reducible first | exact g1 | refine Fr.setCell ?_ (fun hlt => absurd hlt (by dsimp only; omega)) _ | refine Fr.alloc ?_ _ | refine Fr.drewN ?_ _ | refine Fr.drew ?_)), ?_⟩
  have hsz := HF0.out.size
  intro k hk
  have hk' : WF g (w.heap.size + 1) vg v' sv' k := by
    rcases hk with s | s | s | s
    · exact Or.inl s
    · exact Or.inr (Or.inr (Or.inl s))
    · exact Or.inr (Or.inr (Or.inr (Or.inl s)))
    · exact Or.inr (Or.inr (Or.inr (Or.inr s)))
  rcases HFO.out k hk' with s | s
  · rcases s with s | s | s | s | s
    · exact Or.inl (Or.inl s)
    · exact Or.inr (by omega)
    · exact Or.inl (Or.inr (Or.inl s))
    · exact Or.inl (Or.inr (Or.inr (Or.inl s)))
    · exact Or.inl (Or.inr (Or.inr (Or.inr s)))
  · exact Or.inr (by omega)
end
end Go.Proofs.Ytgibhgppfmbnaaa.StackJ
