/- Chapter 10: the walks of visit, Kids, Reverse and step. -/
import Derived.Test.YtgibhgppfmbnaaaStackH
import Derived.Deep.LoopGhost
namespace Go.Proofs.Ytgibhgppfmbnaaa.StackI
open Go.RowKit Base Slices Quiet StackA StackB StackC StackD StackE StackG StackH TrapA TrapB TrapG
set_option linter.unusedVariables false
set_option linter.unusedSimpArgs false

section
variable (w : World)
set_option maxHeartbeats 2000000 in
theorem Kids_any (x : Int) : Calls Try.prog 27 #[.int .i64 x] w fun e w' => ∃ c, e = .returned (.slice (some ⟨w.heap.size, 0, none⟩) (kids x).length c) ∧ Fr Nil w w' ∧ Own EI w' 0 (.slice (some ⟨w.heap.size, 0, none⟩) (kids x).length c) (kids x) := by
  by_cases h : 2 ≤ x ∧ x ≤ 1000
  · obtain ⟨h1, h2⟩ := h
    have hk : kids x = [x / 2, x - x / 2] := if_pos ⟨h1, h2⟩
    have HK := Lib.hid hk
    have HF : Hid (Go.RowKit.Hid True) := Lib.hid (Lib.hid trivial)
    clear hk HF
    go_enter Try.func27, Try.ntmps27
    go_wp2_with fail
    rw [HK.out]
    refine bodyPost_ret (v := .slice (some ⟨w.heap.size, 0, none⟩) 2 2) (by simp [results, Try.results27, go_sem]) rfl ⟨2, rfl, by (repeat' (with_reducible first | refine Fr.setCell ?_ (fun hlt => absurd hlt (by dsimp only; omega)) _ | refine Fr.alloc ?_ _ | refine Fr.drewN ?_ _ | refine Fr.drew ?_ | exact Fr.refl _ _)), Own.lit EI_ok [x / 2, x - x / 2] rfl (Nat.zero_le _) (by simp [maxLen]) rfl⟩
  · have hk : kids x = [] := if_neg h
    have HK := Lib.hid hk
    clear hk
    rcases Int.lt_or_le x 2 with h1 | h1
    · clear h
      go_enter Try.func27, Try.ntmps27
      go_wp2_with fail
      rw [HK.out]
      refine bodyPost_ret (v := .slice (some ⟨w.heap.size, 0, none⟩) 0 0) (by simp [results, Try.results27, go_sem]) rfl ⟨0, rfl, by (repeat' (with_reducible first | refine Fr.setCell ?_ (fun hlt => absurd hlt (by dsimp only; omega)) _ | refine Fr.alloc ?_ _ | refine Fr.drewN ?_ _ | refine Fr.drew ?_ | exact Fr.refl _ _)), Own.made (Nat.zero_le _) rfl⟩
    · have h2 : 1000 < x := by omega
      clear h
      go_enter Try.func27, Try.ntmps27
      go_wp2_with fail
      rw [HK.out]
      refine bodyPost_ret (v := .slice (some ⟨w.heap.size, 0, none⟩) 0 0) (by simp [results, Try.results27, go_sem]) rfl ⟨0, rfl, by (repeat' (with_reducible first | refine Fr.setCell ?_ (fun hlt => absurd hlt (by dsimp only; omega)) _ | refine Fr.alloc ?_ _ | refine Fr.drewN ?_ _ | refine Fr.drew ?_ | exact Fr.refl _ _)), Own.made (Nat.zero_le _) rfl⟩

theorem reverse_nil (A : Option Addr) (c : Nat) : Calls Try.prog 30 #[.slice A 0 c] w fun e w' => e = .returned (.tuple #[]) ∧ Fr Nil w w' := by
  go_enter Try.func30, Try.ntmps30
  go_wp2_with fail
  refine wp_loop_rounds 1 ?_
  rw [rounds_succ]
  go_wp2_with fail
  go_end0
  exact ⟨rfl, by (repeat' (with_reducible first | refine Fr.setCell ?_ (fun hlt => absurd hlt (by dsimp only; omega)) _ | refine Fr.alloc ?_ _ | refine Fr.drewN ?_ _ | refine Fr.drew ?_ | exact Fr.refl _ _))⟩
set_option maxHeartbeats 4000000 in
theorem reverse_two {g c : Nat} {a b : Int} (h : Own EI w 0 (.slice (some ⟨g, 0, none⟩) 2 c) [a, b]) : Calls Try.prog 30 #[.slice (some ⟨g, 0, none⟩) 2 c] w fun e w' => e = .returned (.tuple #[]) ∧ Fr (fun k => k = g) w w' ∧ Own EI w' 0 (.slice (some ⟨g, 0, none⟩) 2 c) [b, a] := by
  have c0 : w.cell? ⟨g, 0, none⟩ = some (.int .i64 a) := World.ownsRow.cellAt (n := 2) h 0 (by decide)
  have c1 : w.cell? ⟨g, 1, none⟩ = some (.int .i64 b) := World.ownsRow.cellAt (n := 2) h 1 (by decide)
  have f0 : w.frozen? ⟨g, 0, none⟩ = false := World.ownsRow.frozenAt h 0
  have f1 : w.frozen? ⟨g, 1, none⟩ = false := World.ownsRow.frozenAt h 1
  have HO := Lib.hid h
  clear h
  go_enter Try.func30, Try.ntmps30
  go_wp2_with fail
  refine wp_loop_rounds 2 ?_
  rw [rounds_succ]
  go_wp2_with fail
  go_region
  all_goals
    go_wp2_with fail
    rw [rounds_succ]
    go_wp2_with fail
    go_end0
    exact ⟨rfl, (Fr.setCell (S := fun k => k = g) (p := ⟨g, 1, none⟩) (Fr.setCell (p := ⟨g, 0, none⟩) (Fr.refl (fun k => k = g) w) (fun _ => rfl) _) (fun _ => rfl) _).drew, (World.ownsRow.stored (World.ownsRow.stored (n := 2) HO.out 0 (.int .i64 b)).1 1 (.int .i64 a)).1⟩
end

/-- what a visitor is: its block, the slice in it, what it has seen -/
def Vis (w : World) (g : Nat) (v : Value) (l : List Int) : Prop := Bk w g 42 #[v] ∧ Own EI w 0 v l
theorem Vis.fr {w w' : World} {g : Nat} {v : Value} {l : List Int} {S : Nat → Prop} (h : Vis w g v l) (hf : Fr S w w') (hs : ∀ k, Foot g v k → ¬ S k) : Vis w' g v l :=
  ⟨h.1.fr hf (hs g (Or.inl rfl)), h.2.fr hf fun k hk => hs k (Or.inr hk)⟩
theorem Vis.nil {w w' : World} {g : Nat} {v : Value} {l : List Int} (h : Vis w g v l) (hf : Fr Nil w w') : Vis w' g v l := h.fr hf fun _ _ s => s
theorem Vis.lt {w : World} {g : Nat} {v : Value} {l : List Int} (h : Vis w g v l) : ∀ k, Foot g v k → k < w.heap.size := by
  rintro k (rfl | hk)
  · exact h.1.lt
  · exact (h.2.lt k hk).2
theorem own_apart {w : World} {g t : Nat} {v : Value} {cs : Array Value} {l : List Int} (h : Own EI w 0 v l) (hb : Bk w g t cs) (ht : 3 ≠ t) {k : Nat} (hk : v.ownBlock = some k) : k ≠ g := by
  rcases h.2 with ⟨rfl, _⟩ | ⟨g', cap, cur, rfl, hb', hg, hr⟩
  · cases hk
  · simp [Value.ownBlock] at hk
    subst hk
    exact Bk.apart (t := 3) (t' := t) hg hb ht

/-- what visit leaves: the kids in a new row, and what was seen -/
def Visited (w : World) (vg : Nat) (sv : Value) (seen : List Int) (x : Int) (e : Ending) (w' : World) : Prop :=
  ∃ g1 c sv', e = .returned (.slice (some ⟨g1, 0, none⟩) (kids x).length c) ∧ Own EI w' 0 (.slice (some ⟨g1, 0, none⟩) (kids x).length c) (kids x) ∧ w.heap.size ≤ g1 ∧ Vis w' vg sv' (seen ++ [x]) ∧ Fr (Foot vg sv) w w' ∧ Moved w sv sv' ∧ sv'.ownBlock ≠ some g1

section
variable (w : World)
set_option maxHeartbeats 4000000 in
theorem visit_any {vg : Nat} {sv : Value} {seen : List Int} (x : Int) (h : Vis w vg sv seen) (hl : seen.length ≤ 10000) : Calls Try.prog 18 #[.pointer (some ⟨vg, 0, none⟩), .int .i64 x] w (Visited w vg sv seen x) := by
  obtain ⟨c0, f0⟩ := h.1.c1
  obtain ⟨A, c, hsv⟩ := (h.2.sl EI_ok).shape
  subst hsv
  have HB := Lib.hid h.1
  have HO := Lib.hid h.2
  have HA := Lib.hid (fun k hk => own_apart (k := k) h.2 h.1 (by decide) hk)
  have HL := Lib.hid (show seen.length + [x].length ≤ 1000000 by simp; omega)
  have HG := Lib.hid h.1.lt
  clear h hl
  go_enter Try.func18, Try.ntmps18
  go_wp2_with (at_builtin; refine wpList_app EI_ok rfl (.tmp 9) (.tmp 11) 28 rfl rfl 0 (.slice A seen.length c) (.slice (some ⟨w.heap.size, 0, none⟩) 1 1) seen [x] rfl (HO.out.alloc _) rfl (lit_sl EI_ok [x] rfl rfl 3).come HL.out (Nat.zero_le _) ?_; intro v' w1 o1 o2 o3 o4; obtain ⟨A2, c2, hv'⟩ := (o1.sl EI_ok).shape; subst hv'; have hB1 := Bk.fr (HB.out.alloc _) o2 (fun s => HA.out _ s rfl); obtain ⟨k0, e0⟩ := hB1.c1; have HB1 := Lib.hid hB1; have HO1 := Lib.hid o1; have HF1 := Lib.hid o2; have HM1 := Lib.hid o3; clear hB1 o1 o2 o3 o4)
  refine (Kids_any _ x).mono ?_
  rintro e w2 ⟨c3, rfl, hf2, ho2⟩
  have HF2 := Lib.hid hf2
  have HO2 := Lib.hid ho2
  clear hf2 ho2
  go_wp2_with fail
  have ho1 := HO1.out
  have hm1 := HM1.out
  rw [List.length_append, List.length_singleton] at ho1 hm1
  have hne : ∀ k, (Value.slice A2 (seen.length + 1) c2).ownBlock = some k → k ≠ vg := fun k hk => by
    rcases hm1 k hk with h1 | h1
    · exact HA.out k h1
    · have := HG.out
      simp at h1
      omega
  have hf1 : Fr (Foot vg (.slice A seen.length c)) w w1 := Fr.trans (by (repeat' (with_reducible first | refine Fr.setCell ?_ (fun hlt => absurd hlt (by dsimp only; omega)) _ | refine Fr.alloc ?_ _ | refine Fr.drewN ?_ _ | refine Fr.drew ?_ | exact Fr.refl _ _))) (HF1.out.mono fun k hk _ => Or.inr hk)
  have hf1' : Fr (Foot vg (.slice A seen.length c)) w (w1.setCell ⟨vg, 0, none⟩ (.slice A2 (seen.length + 1) c2)) := Fr.setCell (p := ⟨vg, 0, none⟩) hf1 (fun _ => Or.inl rfl) _
  have hs1 : w.heap.size ≤ (w1.setCell ⟨vg, 0, none⟩ (.slice A2 (seen.length + 1) c2)).heap.size := hf1'.size
  refine bodyPost_ret (v := .slice (some ⟨(w1.setCell ⟨vg, 0, none⟩ (.slice A2 (seen.length + 1) c2)).heap.size, 0, none⟩) (kids x).length c3) (by simp [results, Try.results18, go_sem]) rfl ⟨_, c3, .slice A2 (seen.length + 1) c2, rfl, HO2.out, hs1, ?_, hf1'.trans HF2.out.of_nil, ?_, ?_⟩
  · exact Vis.nil ⟨HB1.out.put 0 _, ho1.fr (S := fun k => k = vg) (Fr.setCell (p := ⟨vg, 0, none⟩) (Fr.refl (fun k => k = vg) _) (fun _ => rfl) _) hne⟩ HF2.out
  · intro k hk
    rcases hm1 k hk with h1 | h1
    · exact Or.inl h1
    · exact Or.inr (by simp at h1; omega)
  · intro hk
    have := (ho1.lt _ hk).2
    simp at this
end

/-- The state of a walk: the stack, the walker, the visitor; all apart. -/
def Wst (w : World) (g wg vg : Nat) (v sv : Value) (l seen : List Int) (n most : Nat) : Prop :=
  Stk w g v l most ∧ Bk w wg 58 #[.pointer (some ⟨g, 0, none⟩), .func (.func 18) #[.pointer (some ⟨vg, 0, none⟩)] #[], .int .i64 (n : Int)] ∧ Vis w vg sv seen ∧ ∀ k, v.ownBlock = some k → sv.ownBlock ≠ some k
def WF (g wg vg : Nat) (v sv : Value) : Nat → Prop := fun k => k = g ∨ k = wg ∨ k = vg ∨ v.ownBlock = some k ∨ sv.ownBlock = some k
/-- what a step leaves -/
def Stepped (w : World) (g wg vg : Nat) (v sv : Value) (l seen : List Int) (n most : Nat) (w' : World) : Prop :=
  ∃ v' sv', Wst w' g wg vg v' sv' l seen n most ∧ Fr (WF g wg vg v sv) w w' ∧ ∀ k, WF g wg vg v' sv' k → WF g wg vg v sv k ∨ w.heap.size ≤ k

theorem Wst.lt {w : World} {g wg vg : Nat} {v sv : Value} {l seen : List Int} {n most : Nat} (h : Wst w g wg vg v sv l seen n most) : ∀ k, WF g wg vg v sv k → k < w.heap.size := by
  obtain ⟨h1, h2, h3, _⟩ := h
  rintro k (rfl | rfl | rfl | hk | hk)
  · exact h1.1.lt
  · exact h2.lt
  · exact h3.1.lt
  · exact (h1.2.lt k hk).2
  · exact (h3.2.lt k hk).2
theorem Wst.fr {w w' : World} {g wg vg : Nat} {v sv : Value} {l seen : List Int} {n most : Nat} {S : Nat → Prop} (h : Wst w g wg vg v sv l seen n most) (hf : Fr S w w') (hs : ∀ k, WF g wg vg v sv k → ¬ S k) : Wst w' g wg vg v sv l seen n most :=
  ⟨h.1.fr hf fun k hk => hs k (hk.elim Or.inl fun e => Or.inr (Or.inr (Or.inr (Or.inl e)))), h.2.1.fr hf (hs wg (Or.inr (Or.inl rfl))), h.2.2.1.fr hf fun k hk => hs k (hk.elim (fun e => Or.inr (Or.inr (Or.inl e))) fun e => Or.inr (Or.inr (Or.inr (Or.inr e)))), h.2.2.2⟩
theorem Wst.nil {w w' : World} {g wg vg : Nat} {v sv : Value} {l seen : List Int} {n most : Nat} (h : Wst w g wg vg v sv l seen n most) (hf : Fr Nil w w') : Wst w' g wg vg v sv l seen n most := h.fr hf fun _ _ s => s

section
variable (w : World)
set_option maxHeartbeats 4000000 in
theorem step_nil {g wg vg : Nat} {v sv : Value} {seen : List Int} {n most : Nat} (h : Wst w g wg vg v sv [] seen n most) : Calls Try.prog 26 #[.pointer (some ⟨wg, 0, none⟩)] w fun e w' => e = .returned (.bool false) ∧ Fr Nil w w' := by
  obtain ⟨c0, c1, c2, f0, f1, f2⟩ := h.2.1.c3
  have HS := Lib.hid h.1
  clear h
  go_enter Try.func26, Try.ntmps26
  go_wp2_with fail
  refine (pop_false _ (top_nil w HS.out)).mono ?_
  rintro e w1 ⟨rfl, hf1⟩
  have HF1 := Lib.hid hf1
  clear hf1
  go_wp2_with fail
  exact bodyPost_ret (v := .bool false) (by simp [results, Try.results26, go_sem]) rfl ⟨rfl, HF1.out⟩

set_option maxRecDepth 100000 in
set_option maxHeartbeats 8000000 in
theorem step_two {g wg vg : Nat} {v sv : Value} {l seen : List Int} {x : Int} {n most : Nat} (hx : 2 ≤ x ∧ x ≤ 1000) (h : Wst w g wg vg v sv (l ++ [x]) seen n most) (hl : l.length + 2 ≤ most) (hm : most ≤ 65536) (hs : seen.length ≤ 10000) (hn : n ≤ 10000) :
    Calls Try.prog 26 #[.pointer (some ⟨wg, 0, none⟩)] w fun e w' => e = .returned (.bool true) ∧ Stepped w g wg vg v sv (l ++ [x - x / 2, x / 2]) (seen ++ [x]) (n + 1) most w' := by
  have hk : kids x = [x / 2, x - x / 2] := if_pos hx
  obtain ⟨hS, hW, hV, hap⟩ := h
  obtain ⟨c0, c1, c2, f0, f1, f2⟩ := hW.c3
  have HWF := Lib.hid (show ∀ k, WF g wg vg v sv k → k < w.heap.size from Wst.lt ⟨hS, hW, hV, hap⟩)
  have hgw : g ≠ wg := Bk.apart hS.1 hW (by decide)
  have hvw : vg ≠ wg := Bk.apart hV.1 hW (by decide)
  have hgv : g ≠ vg := Bk.apart hS.1 hV.1 (by decide)
  have HVR := Lib.hid (fun k hk => (⟨own_apart (k := k) hS.2 hW (by decide) hk, own_apart (k := k) hS.2 hV.1 (by decide) hk, hS.apart (k := k) hk⟩ : k ≠ wg ∧ k ≠ vg ∧ k ≠ g))
  have HSR := Lib.hid (fun k hk => (⟨own_apart (k := k) hV.2 hW (by decide) hk, own_apart (k := k) hV.2 hV.1 (by decide) hk, own_apart (k := k) hV.2 hS.1 (by decide) hk⟩ : k ≠ wg ∧ k ≠ vg ∧ k ≠ g))
  have HAP := Lib.hid hap
  have HK := Lib.hid hk
  have HS := Lib.hid hS
  have HW := Lib.hid hW
  have HV := Lib.hid hV
  have HN := Lib.hid (And.intro hgw (And.intro hvw hgv))
  have HL := Lib.hid hl
  have HM := Lib.hid hm
  have HSL := Lib.hid hs
  have hn0 : (n : Int) ≤ 10000 := by omega
  have hn1 : (0 : Int) ≤ n := by omega
  clear hk hS hW hV hap hgw hvw hgv hl hm hs hn hx
  go_enter Try.func26, Try.ntmps26
  go_wp2_with fail
  refine (pop_snoc w HS.out (by have := HL.out; have := HM.out; omega)).mono ?_
  rintro e w1 ⟨rfl, hf1, hs1⟩
  have hW1 := HW.out.fr hf1 (fun s => HN.out.1 s.symm)
  obtain ⟨d0, d1, d2, g0, g1, g2⟩ := hW1.c3
  have HW1 := Lib.hid hW1
  have HV1 := Lib.hid (HV.out.fr hf1 (fun k hk s => by
    rcases hk with rfl | hk
    · exact HN.out.2.2 s.symm
    · exact (HSR.out k hk).2.2 s))
  have HF1 := Lib.hid hf1
  have HS1 := Lib.hid hs1
  have hl1 := hW1.lt
  clear hW1 hf1 hs1 c0 c1 c2 f0 f1 f2
  go_wp2_with fail
  have hfw : Fr (fun k => k = wg) w1 (w1.setCell ⟨wg, 2, none⟩ (.int .i64 ((n : Int) + 1))) := Fr.setCell (p := ⟨wg, 2, none⟩) (Fr.refl (fun k => k = wg) w1) (fun _ => rfl) _
  have hW2 := HW1.out.put 2 (.int .i64 ((n : Int) + 1))
  have HS2 := Lib.hid (HS1.out.fr hfw (fun k hk s => by
    rcases hk with rfl | hk
    · exact HN.out.1 s
    · rw [cut_own] at hk
      exact (HVR.out k hk).1 s))
  have HV2 := Lib.hid (HV1.out.fr hfw (fun k hk s => by
    rcases hk with rfl | hk
    · exact HN.out.2.1 s
    · exact (HSR.out k hk).1 s))
  have HF2 := Lib.hid ((HF1.out.mono (S := WF g wg vg v sv) fun k hk _ => Or.inl hk).trans (hfw.mono fun k hk _ => Or.inr (Or.inl hk)))
  have HW2 := Lib.hid hW2
  clear hW2 hfw
  generalize w1.setCell ⟨wg, 2, none⟩ (.int .i64 ((n : Int) + 1)) = w2 at *
  clear d0 d1 d2 g0 g1 g2
  obtain ⟨d0, d1, d2, g0, g1, g2⟩ := HW2.out.c3
  go_wp2_with fail
  refine (visit_any w2 x HV2.out HSL.out).mono ?_
  rintro e w3 ⟨gk, ck, sv3, rfl, ho3, hgk, hv3, hf3, hm3, hne3⟩
  rw [HK.out] at ho3
  simp only [HK.out, List.length_cons, List.length_nil, Nat.zero_add]
  have HO3 := Lib.hid ho3
  have HV3 := Lib.hid hv3
  have HF3 := Lib.hid hf3
  have HM3 := Lib.hid hm3
  have HS3 := Lib.hid (HS2.out.fr hf3 (fun k hk s => by
    rcases hk with rfl | hk
    · rcases s with s | s
      · exact HN.out.2.2 s
      · exact (HSR.out _ s).2.2 rfl
    · rw [cut_own] at hk
      rcases s with s | s
      · exact (HVR.out k hk).2.1 s
      · exact HAP.out k hk s))
  have HW3 := Lib.hid (HW2.out.fr hf3 (fun s => by
    rcases s with s | s
    · exact HN.out.2.1 s.symm
    · exact (HSR.out _ s).1 rfl))
  clear ho3 hgk hv3 hf3 hm3 hne3 d0 d1 d2 g0 g1 g2
  go_wp2_with fail
  refine (clone_own w3 HO3.out (by simp)).mono ?_
  rintro e w4 ⟨A4, c4, rfl, hf4, ho4⟩
  have HF4 := Lib.hid hf4
  have hB4 := fun k hk => (ho4.lt k hk).1
  have HB4 := Lib.hid hB4
  have HO4 := Lib.hid (ho4.weaken (Nat.zero_le _))
  clear hf4 ho4 hB4
  obtain ⟨g4, rfl⟩ : ∃ g4, A4 = some ⟨g4, 0, none⟩ := by
    rcases HO4.out.shape with ⟨h0, h1⟩ | ⟨g4, cap, h0, _⟩
    · cases h1
    · simp at h0
      exact ⟨g4, h0.1⟩
  have hgb : w3.heap.size ≤ g4 := HB4.out g4 rfl
  have HGB := Lib.hid hgb
  clear hgb
  go_wp2_with fail
  refine (reverse_two w4 HO4.out).mono ?_
  rintro e w5 ⟨rfl, hf5, ho5⟩
  have HF5 := Lib.hid (HF4.out.then hf5 (T := fun k => k = g4) (S := Nil) (fun i hi hlt => by have := HGB.out; omega))
  have HO5 := Lib.hid ho5
  clear hf5 ho5
  have hW5 := HW3.out.fr HF5.out id
  obtain ⟨d0, d1, d2, g0, g1, g2⟩ := hW5.c3
  have HW5 := Lib.hid hW5
  clear hW5
  go_wp2_with fail
  refine (put_fits w5 (HS3.out.nil HF5.out) (HO5.out.sl EI_ok).come (by show l.length + 2 ≤ most; have := HL.out; omega) HM.out).mono ?_
  rintro e w6 ⟨rfl, hf6, v6, hs6, hm6⟩
  rw [Foot_cut] at hf6
  have HF6 := Lib.hid hf6
  have HS6 := Lib.hid hs6
  have HM6 := Lib.hid hm6
  clear hf6 hs6 hm6
  go_wp2_with fail
  have hn1 : ((n + 1 : Nat) : Int) = (n : Int) + 1 := by omega
  have hsz3 := HF3.out.size
  have hsz2 := HF2.out.size
  have hsz5 := HF5.out.size
  have hvg3 : ∀ k, sv3.ownBlock = some k → k < w3.heap.size := fun k hk => (HV3.out.2.lt k hk).2
  have hV6 : Vis w6 vg sv3 (seen ++ [x]) := (HV3.out.nil HF5.out).fr HF6.out (fun k hk s => by
    rcases hk with rfl | hk
    · rcases s with s | s
      · exact HN.out.2.2 s.symm
      · exact (HVR.out _ s).2.1 rfl
    · rcases s with s | s
      · exact own_apart HV3.out.2 HS3.out.1 (by decide) hk s
      · rcases HM3.out k hk with h1 | h1
        · exact HAP.out k s h1
        · have := HWF.out k (Or.inr (Or.inr (Or.inr (Or.inl s))))
          omega)
  have hW6 := HW5.out.fr HF6.out (fun s => by
    rcases s with s | s
    · exact HN.out.1 s.symm
    · exact (HVR.out _ s).1 rfl)
  refine bodyPost_ret (v := .bool true) (by simp [results, Try.results26, go_sem]) rfl ⟨rfl, v6, sv3, ⟨HS6.out, by rw [hn1]; exact hW6, hV6, ?_⟩, ?_, ?_⟩
  · intro k hk hk'
    rcases HM6.out k hk with h1 | h1
    · rw [cut_own] at h1
      rcases HM3.out k hk' with h2 | h2
      · exact HAP.out k h1 h2
      · have := HWF.out k (Or.inr (Or.inr (Or.inr (Or.inl h1))))
        omega
    · have := hvg3 k hk'
      omega
  · refine ((HF2.out.trans (HF3.out.mono fun k hk _ => ?_)).trans HF5.out.of_nil).trans (HF6.out.mono fun k hk _ => ?_)
    · rcases hk with hk | hk
      · exact Or.inr (Or.inr (Or.inl hk))
      · exact Or.inr (Or.inr (Or.inr (Or.inr hk)))
    · rcases hk with hk | hk
      · exact Or.inl hk
      · exact Or.inr (Or.inr (Or.inr (Or.inl hk)))
  · rintro k (hk | hk | hk | hk | hk)
    · exact Or.inl (Or.inl hk)
    · exact Or.inl (Or.inr (Or.inl hk))
    · exact Or.inl (Or.inr (Or.inr (Or.inl hk)))
    · rcases HM6.out k hk with h1 | h1
      · rw [cut_own] at h1
        exact Or.inl (Or.inr (Or.inr (Or.inr (Or.inl h1))))
      · exact Or.inr (by omega)
    · rcases HM3.out k hk with h1 | h1
      · exact Or.inl (Or.inr (Or.inr (Or.inr (Or.inr h1))))
      · exact Or.inr (by omega)

set_option maxRecDepth 100000 in
set_option maxHeartbeats 8000000 in
theorem step_none {g wg vg : Nat} {v sv : Value} {l seen : List Int} {x : Int} {n most : Nat} (hx : ¬ (2 ≤ x ∧ x ≤ 1000)) (h : Wst w g wg vg v sv (l ++ [x]) seen n most) (hl : l.length + 2 ≤ most) (hm : most ≤ 65536) (hs : seen.length ≤ 10000) (hn : n ≤ 10000) :
    Calls Try.prog 26 #[.pointer (some ⟨wg, 0, none⟩)] w fun e w' => e = .returned (.bool true) ∧ Stepped w g wg vg v sv (l ++ []) (seen ++ [x]) (n + 1) most w' := by
  have hk : kids x = [] := if_neg hx
  obtain ⟨hS, hW, hV, hap⟩ := h
  obtain ⟨c0, c1, c2, f0, f1, f2⟩ := hW.c3
  have HWF := Lib.hid (show ∀ k, WF g wg vg v sv k → k < w.heap.size from Wst.lt ⟨hS, hW, hV, hap⟩)
  have hgw : g ≠ wg := Bk.apart hS.1 hW (by decide)
  have hvw : vg ≠ wg := Bk.apart hV.1 hW (by decide)
  have hgv : g ≠ vg := Bk.apart hS.1 hV.1 (by decide)
  have HVR := Lib.hid (fun k hk => (⟨own_apart (k := k) hS.2 hW (by decide) hk, own_apart (k := k) hS.2 hV.1 (by decide) hk, hS.apart (k := k) hk⟩ : k ≠ wg ∧ k ≠ vg ∧ k ≠ g))
  have HSR := Lib.hid (fun k hk => (⟨own_apart (k := k) hV.2 hW (by decide) hk, own_apart (k := k) hV.2 hV.1 (by decide) hk, own_apart (k := k) hV.2 hS.1 (by decide) hk⟩ : k ≠ wg ∧ k ≠ vg ∧ k ≠ g))
  have HAP := Lib.hid hap
  have HK := Lib.hid hk
  have HS := Lib.hid hS
  have HW := Lib.hid hW
  have HV := Lib.hid hV
  have HN := Lib.hid (And.intro hgw (And.intro hvw hgv))
  have HL := Lib.hid hl
  have HM := Lib.hid hm
  have HSL := Lib.hid hs
  have hn0 : (n : Int) ≤ 10000 := by omega
  have hn1 : (0 : Int) ≤ n := by omega
  clear hk hS hW hV hap hgw hvw hgv hl hm hs hn hx
  go_enter Try.func26, Try.ntmps26
  go_wp2_with fail
  refine (pop_snoc w HS.out (by have := HL.out; have := HM.out; omega)).mono ?_
  rintro e w1 ⟨rfl, hf1, hs1⟩
  have hW1 := HW.out.fr hf1 (fun s => HN.out.1 s.symm)
  obtain ⟨d0, d1, d2, g0, g1, g2⟩ := hW1.c3
  have HW1 := Lib.hid hW1
  have HV1 := Lib.hid (HV.out.fr hf1 (fun k hk s => by
    rcases hk with rfl | hk
    · exact HN.out.2.2 s.symm
    · exact (HSR.out k hk).2.2 s))
  have HF1 := Lib.hid hf1
  have HS1 := Lib.hid hs1
  have hl1 := hW1.lt
  clear hW1 hf1 hs1 c0 c1 c2 f0 f1 f2
  go_wp2_with fail
  have hfw : Fr (fun k => k = wg) w1 (w1.setCell ⟨wg, 2, none⟩ (.int .i64 ((n : Int) + 1))) := Fr.setCell (p := ⟨wg, 2, none⟩) (Fr.refl (fun k => k = wg) w1) (fun _ => rfl) _
  have hW2 := HW1.out.put 2 (.int .i64 ((n : Int) + 1))
  have HS2 := Lib.hid (HS1.out.fr hfw (fun k hk s => by
    rcases hk with rfl | hk
    · exact HN.out.1 s
    · rw [cut_own] at hk
      exact (HVR.out k hk).1 s))
  have HV2 := Lib.hid (HV1.out.fr hfw (fun k hk s => by
    rcases hk with rfl | hk
    · exact HN.out.2.1 s
    · exact (HSR.out k hk).1 s))
  have HF2 := Lib.hid ((HF1.out.mono (S := WF g wg vg v sv) fun k hk _ => Or.inl hk).trans (hfw.mono fun k hk _ => Or.inr (Or.inl hk)))
  have HW2 := Lib.hid hW2
  clear hW2 hfw
  generalize w1.setCell ⟨wg, 2, none⟩ (.int .i64 ((n : Int) + 1)) = w2 at *
  clear d0 d1 d2 g0 g1 g2
  obtain ⟨d0, d1, d2, g0, g1, g2⟩ := HW2.out.c3
  go_wp2_with fail
  refine (visit_any w2 x HV2.out HSL.out).mono ?_
  rintro e w3 ⟨gk, ck, sv3, rfl, ho3, hgk, hv3, hf3, hm3, hne3⟩
  rw [HK.out] at ho3
  simp only [HK.out, List.length_cons, List.length_nil, Nat.zero_add]
  have HO3 := Lib.hid ho3
  have HV3 := Lib.hid hv3
  have HF3 := Lib.hid hf3
  have HM3 := Lib.hid hm3
  have HS3 := Lib.hid (HS2.out.fr hf3 (fun k hk s => by
    rcases hk with rfl | hk
    · rcases s with s | s
      · exact HN.out.2.2 s
      · exact (HSR.out _ s).2.2 rfl
    · rw [cut_own] at hk
      rcases s with s | s
      · exact (HVR.out k hk).2.1 s
      · exact HAP.out k hk s))
  have HW3 := Lib.hid (HW2.out.fr hf3 (fun s => by
    rcases s with s | s
    · exact HN.out.2.1 s.symm
    · exact (HSR.out _ s).1 rfl))
  clear ho3 hgk hv3 hf3 hm3 hne3 d0 d1 d2 g0 g1 g2
  go_wp2_with fail
  refine (clone_own w3 HO3.out (by simp)).mono ?_
  rintro e w4 ⟨A4, c4, rfl, hf4, ho4⟩
  have HF4 := Lib.hid hf4
  have hB4 := fun k hk => (ho4.lt k hk).1
  have HB4 := Lib.hid hB4
  have HO4 := Lib.hid (ho4.weaken (Nat.zero_le _))
  clear hf4 ho4 hB4
  go_wp2_with fail
  refine (reverse_nil w4 A4 c4).mono ?_
  rintro e w5 ⟨rfl, hf5⟩
  have HF5 := Lib.hid (HF4.out.trans hf5)
  have HO5 := Lib.hid (HO4.out.fr hf5 (fun _ _ s => s))
  clear hf5
  have hW5 := HW3.out.fr HF5.out id
  obtain ⟨d0, d1, d2, g0, g1, g2⟩ := hW5.c3
  have HW5 := Lib.hid hW5
  clear hW5
  go_wp2_with fail
  refine (put_fits w5 (HS3.out.nil HF5.out) (HO5.out.sl EI_ok).come (by show l.length + 0 ≤ most; have := HL.out; omega) HM.out).mono ?_
  rintro e w6 ⟨rfl, hf6, v6, hs6, hm6⟩
  rw [Foot_cut] at hf6
  have HF6 := Lib.hid hf6
  have HS6 := Lib.hid hs6
  have HM6 := Lib.hid hm6
  clear hf6 hs6 hm6
  go_wp2_with fail
  have hn1 : ((n + 1 : Nat) : Int) = (n : Int) + 1 := by omega
  have hsz3 := HF3.out.size
  have hsz2 := HF2.out.size
  have hsz5 := HF5.out.size
  have hvg3 : ∀ k, sv3.ownBlock = some k → k < w3.heap.size := fun k hk => (HV3.out.2.lt k hk).2
  have hV6 : Vis w6 vg sv3 (seen ++ [x]) := (HV3.out.nil HF5.out).fr HF6.out (fun k hk s => by
    rcases hk with rfl | hk
    · rcases s with s | s
      · exact HN.out.2.2 s.symm
      · exact (HVR.out _ s).2.1 rfl
    · rcases s with s | s
      · exact own_apart HV3.out.2 HS3.out.1 (by decide) hk s
      · rcases HM3.out k hk with h1 | h1
        · exact HAP.out k s h1
        · have := HWF.out k (Or.inr (Or.inr (Or.inr (Or.inl s))))
          omega)
  have hW6 := HW5.out.fr HF6.out (fun s => by
    rcases s with s | s
    · exact HN.out.1 s.symm
    · exact (HVR.out _ s).1 rfl)
  refine bodyPost_ret (v := .bool true) (by simp [results, Try.results26, go_sem]) rfl ⟨rfl, v6, sv3, ⟨HS6.out, by rw [hn1]; exact hW6, hV6, ?_⟩, ?_, ?_⟩
  · intro k hk hk'
    rcases HM6.out k hk with h1 | h1
    · rw [cut_own] at h1
      rcases HM3.out k hk' with h2 | h2
      · exact HAP.out k h1 h2
      · have := HWF.out k (Or.inr (Or.inr (Or.inr (Or.inl h1))))
        omega
    · have := hvg3 k hk'
      omega
  · refine ((HF2.out.trans (HF3.out.mono fun k hk _ => ?_)).trans HF5.out.of_nil).trans (HF6.out.mono fun k hk _ => ?_)
    · rcases hk with hk | hk
      · exact Or.inr (Or.inr (Or.inl hk))
      · exact Or.inr (Or.inr (Or.inr (Or.inr hk)))
    · rcases hk with hk | hk
      · exact Or.inl hk
      · exact Or.inr (Or.inr (Or.inr (Or.inl hk)))
  · rintro k (hk | hk | hk | hk | hk)
    · exact Or.inl (Or.inl hk)
    · exact Or.inl (Or.inr (Or.inl hk))
    · exact Or.inl (Or.inr (Or.inr (Or.inl hk)))
    · rcases HM6.out k hk with h1 | h1
      · rw [cut_own] at h1
        exact Or.inl (Or.inr (Or.inr (Or.inr (Or.inl h1))))
      · exact Or.inr (by omega)
    · rcases HM3.out k hk with h1 | h1
      · exact Or.inl (Or.inr (Or.inr (Or.inr (Or.inr h1))))
      · exact Or.inr (by omega)

theorem step_any {g wg vg : Nat} {v sv : Value} {l seen : List Int} {x : Int} {n most : Nat} (h : Wst w g wg vg v sv (l ++ [x]) seen n most) (hl : l.length + 2 ≤ most) (hm : most ≤ 65536) (hs : seen.length ≤ 10000) (hn : n ≤ 10000) :
    Calls Try.prog 26 #[.pointer (some ⟨wg, 0, none⟩)] w fun e w' => e = .returned (.bool true) ∧ Stepped w g wg vg v sv (l ++ (kids x).reverse) (seen ++ [x]) (n + 1) most w' := by
  by_cases hx : 2 ≤ x ∧ x ≤ 1000
  · have := step_two w hx h hl hm hs hn
    rw [show (kids x).reverse = [x - x / 2, x / 2] by unfold kids; rw [if_pos hx]; rfl]
    exact this
  · have := step_none w hx h hl hm hs hn
    rw [show (kids x).reverse = [] by unfold kids; rw [if_neg hx]; rfl]
    exact this
end
end Go.Proofs.Ytgibhgppfmbnaaa.StackI
