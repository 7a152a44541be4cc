/- Chapter 6: the reference's Set, Give. -/
import Derived.Test.YtemofdbepalnkaaPoolH
import Derived.Deep.DeepCutAuto
namespace Go.Proofs.Ytemofdbepalnkaa.PoolI
open Go.RowKit Base Slices Quiet PoolH
set_option linter.unusedVariables false
set_option linter.unusedSimpArgs false

theorem of_made {g : Nat} {n m : Nat} {i : Nat} (h : Slices.Of (.slice (some ⟨g, 0, none⟩) n m) i) : i = g := by
  unfold Slices.Of at h
  simp [Value.ownBlock] at h
  omega

section
variable (w : World)
set_option maxHeartbeats 2000000 in
theorem rSet_bad {x : Nat} {vv tv gv : Value} {V : List Int} {T : List Bool} {G : List Int} {most : Nat} {i y : Int} (h : RP w x vv tv gv V T G most) (hl : T.length ≤ 1000) (hi : ∀ k : Nat, i = (k : Int) + 1 → T[k]? ≠ some true) :
    Calls Try.prog 27 #[.pointer (some ⟨x, 0, none⟩), .int .i64 i, .int .i64 y] w fun e w' => e = .returned (.int .i64 6) ∧ Fr Nil w w' := by
  have K := Lib.hid (Has_no w h hl hi)
  clear h hi
  go_enter Try.func27, Try.ntmps27
  go_wp2_with fail
  refine K.out.mono ?_
  rintro e w1 ⟨rfl, hf⟩
  go_wp2_with fail
  exact bodyPost_ret (v := .int .i64 6) (by simp [results, Try.results27, go_sem]) rfl ⟨rfl, hf⟩
set_option maxHeartbeats 2000000 in
theorem rGive_bad {x : Nat} {vv tv gv : Value} {V : List Int} {T : List Bool} {G : List Int} {most : Nat} {i : Int} (h : RP w x vv tv gv V T G most) (hl : T.length ≤ 1000) (hi : ∀ k : Nat, i = (k : Int) + 1 → T[k]? ≠ some true) :
    Calls Try.prog 26 #[.pointer (some ⟨x, 0, none⟩), .int .i64 i] w fun e w' => e = .returned (.int .i64 6) ∧ Fr Nil w w' := by
  have K := Lib.hid (Has_no w h hl hi)
  clear h hi
  go_enter Try.func26, Try.ntmps26
  go_wp2_with fail
  refine K.out.mono ?_
  rintro e w1 ⟨rfl, hf⟩
  go_wp2_with fail
  exact bodyPost_ret (v := .int .i64 6) (by simp [results, Try.results26, go_sem]) rfl ⟨rfl, hf⟩

set_option maxHeartbeats 2000000 in
theorem rSet_ok {x k : Nat} {vv tv gv : Value} {V : List Int} {T : List Bool} {G : List Int} {most : Nat} {y : Int} (h : RP w x vv tv gv V T G most) (hl : T.length ≤ 1000) (hV : V.length = T.length) (hk : T[k]? = some true) :
    Calls Try.prog 27 #[.pointer (some ⟨x, 0, none⟩), .int .i64 ((k : Int) + 1), .int .i64 y] w fun e w' => e = .returned (.int .i64 0) ∧ Fr (RF x vv tv gv) w w' ∧ RH w x vv tv gv (V.set k y) T G most w' := by
  have K := Lib.hid (Has_yes w h hl hk)
  have hkT := (List.getElem?_eq_some_iff.1 hk).1
  obtain ⟨u, hu⟩ : ∃ u, V[k]? = some u := ⟨V[k]'(by omega), List.getElem?_eq_getElem _⟩
  have H := Lib.hid h
  have k3 : (k : Int) < V.length := by omega
  have k4 : (k : Int) ≤ 1000 := by omega
  have k5 : (0 : Int) ≤ k := by omega
  clear h hk
  go_enter Try.func27, Try.ntmps27
  go_wp2_with fail
  refine K.out.mono ?_
  rintro e w1 ⟨rfl, hf⟩
  have H1 := Lib.hid (H.out.nil hf)
  have HF := Lib.hid hf
  obtain ⟨c0, c1, c2, c3, _, _, _, _⟩ := H1.out.1.c4
  obtain ⟨b, c, rfl, hc, hb, _, d0, f0⟩ := own_at (f := fun n => .int .i64 n) EI_ok rfl (fun _ => rfl) H1.out.2.1 hu
  have hbx : ¬ b = x := fun e => H1.out.vx rfl e
  have hxb : ¬ x = b := fun e => hbx e.symm
  clear hf hu
  go_wp2_with fail
  have hfb : Fr (fun k => k = b) w1 (w1.setCell ⟨b, k, none⟩ (.int .i64 y)) := Fr.setCell (p := ⟨b, k, none⟩) (Fr.refl (fun k => k = b) w1) (fun _ => rfl) _
  have ho := own_put (f := fun n => .int .i64 n) (fun _ => rfl) H1.out.2.1 k y
  have hvt := H1.out.vt (k := b) rfl
  have hvg : ∀ k, gv.ownBlock = some k → ¬ k = b := fun k hk e => (H1.out.2.2.2.2 k hk).2.1 (by rw [e]; rfl)
  refine bodyPost_ret (v := .int .i64 0) (by simp [results, Try.results27, go_sem]) rfl ⟨rfl, HF.out.of_nil.trans (hfb.mono fun j hj _ => Or.inr (Or.inl (by rw [hj]; rfl))), .slice (some ⟨b, 0, none⟩) V.length c, tv, gv, ⟨H1.out.1.fr hfb hxb, ho, H1.out.2.2.1.fr hfb (fun j hj s => hvt (by rw [hj, s])), H1.out.2.2.2.1.frS hfb (fun j hj s => hvg j hj s), H1.out.2.2.2.2⟩, fun k hk => Or.inl hk⟩

set_option maxHeartbeats 4000000 in
theorem rGive_ok {x k : Nat} {vv tv gv : Value} {V : List Int} {T : List Bool} {G : List Int} {most : Nat} (h : RP w x vv tv gv V T G most) (hl : T.length ≤ 1000) (hG : G.length ≤ 1000) (hk : T[k]? = some true) :
    Calls Try.prog 26 #[.pointer (some ⟨x, 0, none⟩), .int .i64 ((k : Int) + 1)] w fun e w' => e = .returned (.int .i64 0) ∧ Fr (RF x vv tv gv) w w' ∧ RH w x vv tv gv V (T.set k false) (((k : Int) + 1) :: G) most w' := by
  have K := Lib.hid (Has_yes w h hl hk)
  have hkT := (List.getElem?_eq_some_iff.1 hk).1
  have H := Lib.hid h
  have k3 : (k : Int) < T.length := by omega
  have k4 : (k : Int) ≤ 1000 := by omega
  have k5 : (0 : Int) ≤ k := by omega
  have HLT := Lib.hid h.lt
  obtain ⟨Ag, cg, hgv⟩ := h.2.2.2.1.shape
  subst hgv
  clear h
  go_enter Try.func26, Try.ntmps26
  go_wp2_with fail
  refine K.out.mono ?_
  rintro e w1 ⟨rfl, hf⟩
  have H1 := Lib.hid (H.out.nil hf)
  have HF := Lib.hid hf
  obtain ⟨c0, c1, c2, c3, _, _, f2, _⟩ := H1.out.1.c4
  obtain ⟨b, c, rfl, hc, hb, _, d0, f0⟩ := own_at (f := fun n => .bool n) EB_ok rfl (fun _ => rfl) H1.out.2.2.1 hk
  have hbx : ¬ b = x := fun e => H1.out.tx rfl e
  have hxb : ¬ x = b := fun e => hbx e.symm
  clear hf hk
  go_upto_region 4 with fail
  have hfb : Fr (fun k => k = b) w1 (w1.setCell ⟨b, k, none⟩ (.bool false)) := Fr.setCell (p := ⟨b, k, none⟩) (Fr.refl (fun k => k = b) w1) (fun _ => rfl) _
  have ho := own_put (f := fun n => .bool n) (fun _ => rfl) H1.out.2.2.1 k false
  have hvt : ∀ k, vv.ownBlock = some k → ¬ k = b := fun k hk e => H1.out.vt hk (by rw [e]; rfl)
  have hvg : ∀ k, (Value.slice Ag G.length cg).ownBlock = some k → ¬ k = b := fun k hk e => (H1.out.2.2.2.2 k hk).2.2 (by rw [e]; rfl)
  have HB2 := Lib.hid (H1.out.1.fr hfb hxb)
  have HV2 := Lib.hid (H1.out.2.1.fr hfb (fun j hj s => hvt j hj s))
  have HT2 := Lib.hid ho
  have HG2 := Lib.hid (H1.out.2.2.2.1.frS hfb (fun j hj s => hvg j hj s))
  have HF2 := Lib.hid (show Fr (RF x vv (.slice (some ⟨b, 0, none⟩) T.length c) (.slice Ag G.length cg)) w (w1.setCell ⟨b, k, none⟩ (.bool false)) from HF.out.of_nil.trans (hfb.mono fun j hj _ => Or.inr (Or.inr (Or.inl (by rw [hj]; rfl)))))
  generalize w1.setCell ⟨b, k, none⟩ (.bool false) = w2 at *
  have HX2 := Lib.hid HB2.out.lt
  clear hfb ho hvt hvg c0 c1 c2 c3 d0 f0 f2
  obtain ⟨c0, c1, c2, c3, _, _, f2, _⟩ := HB2.out.c4
  have hx2 := HX2.out
  have hxn : ¬ x = w2.heap.size := by omega
  go_wp2_with (at_builtin; refine wpList_app EI_ok rfl (.tmp 18) (.tmp 22) 36 rfl rfl w2.heap.size _ _ [((k : Int) + 1)] G rfl (Own.lit EI_ok [((k : Int) + 1)] rfl (Nat.le_refl _) (show 1 ≤ maxLen by decide) rfl) rfl (HG2.out.come.fr ((Fr.refl Nil w2).alloc _)) (by simp; omega) (by simp) ?_; intro v3 w3 o1 o2 o3 o4; obtain ⟨A3, d3, rfl⟩ : ∃ A c, v3 = Value.slice A (G.length + 1) c := (by obtain ⟨A, c, h⟩ := (o1.sl EI_ok).shape; exact ⟨A, c, h.trans (by simp [Nat.add_comm])⟩); have HO3 := Lib.hid o1; have HF3 := Lib.hid (show Fr Nil w2 w3 from ((Fr.refl Nil w2).alloc (.cells #[.int .i64 ((k : Int) + 1)] 3)).then o2 (fun i hi hlt => by have := of_made hi; omega)); have hB3 := HB2.out.fr HF3.out id; obtain ⟨z0, z1, z2, z3, _, _, g2, _⟩ := hB3.c4; have HB3 := Lib.hid hB3; clear hB3 o1 o2 o3 o4)
  have hfx : Fr (fun k => k = x) w3 (w3.setCell ⟨x, 2, none⟩ (.slice A3 (G.length + 1) d3)) := Fr.setCell (p := ⟨x, 2, none⟩) (Fr.refl (fun k => k = x) w3) (fun _ => rfl) _
  have hnew : ∀ j, (Value.slice A3 (G.length + 1) d3).ownBlock = some j → w2.heap.size ≤ j := fun j hj => (HO3.out.lt j hj).1
  have hlv : ∀ j, vv.ownBlock = some j → j < w2.heap.size := fun j hj => (HV2.out.lt j hj).2
  have hlb : b < w2.heap.size := (HT2.out.lt b rfl).2
  have hw2 : w.heap.size ≤ w2.heap.size := HF2.out.size
  refine bodyPost_ret (v := .int .i64 0) (by simp [results, Try.results26, go_sem]) rfl ⟨rfl, (HF2.out.trans HF3.out.of_nil).trans (hfx.mono fun j hj _ => Or.inl hj), vv, .slice (some ⟨b, 0, none⟩) T.length c, (.slice A3 (G.length + 1) d3), ⟨HB3.out.put 2 _, (HV2.out.fr HF3.out (fun _ _ s => s)).fr hfx (fun j hj s => H1.out.vx hj s), ?_, ((HO3.out.sl EI_ok).frS hfx (fun j hj s => by have := hnew j hj; omega)), fun j hj => ⟨by have := hnew j hj; omega, fun e => by have := hlv j e; have := hnew j hj; omega, fun e => by have h1 := Option.some.inj e; have := hnew j hj; dsimp only at h1; omega⟩⟩, fun j hj => ?_⟩
  · have ht3 := (HT2.out.fr HF3.out (fun _ _ s => s)).fr hfx (fun j hj s => hbx (by have h1 := Option.some.inj hj; dsimp only at h1; omega))
    exact ht3
  · rcases hj with hj | hj | hj | hj
    · exact Or.inl (Or.inl hj)
    · exact Or.inl (Or.inr (Or.inl hj))
    · exact Or.inl (Or.inr (Or.inr (Or.inl hj)))
    · have := hnew j hj
      exact Or.inr (by omega)
end
end Go.Proofs.Ytemofdbepalnkaa.PoolI
