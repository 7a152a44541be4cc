/- Chapter 6: the reference's Take of a full pool, and of one with a node given. -/
import Derived.Test.YtemofdbepalnkaaPoolI
import Derived.BigQuiet
import Derived.ChangeAlike
namespace Go.Proofs.Ytemofdbepalnkaa.PoolJ
open Go.RowKit Base Slices Quiet PoolH PoolI
set_option linter.unusedVariables false
set_option linter.unusedSimpArgs false

/-- Go's l[1:] of one-cell elements -/
theorem tail_one {α : Type} {P : Program} {E : El α} (hE : E.Ok P) (h1 : E.size = 1) {w : World} {g o cap : Nat} {a : α} {l : List α} (hc : l.length + 1 ≤ cap) (ha : g < w.heap.size) (hr : Row E w g o (a :: l)) :
    Sl E w (.slice (if cap = 1 then some ⟨g, o, none⟩ else some ⟨g, o + 1, none⟩) l.length (cap - 1)) l := by
  have hd := hr.drop hE 1
  simp only [h1, List.drop_one, List.tail_cons, Nat.one_mul] at hd
  split
  · obtain rfl : l = [] := List.eq_nil_of_length_eq_zero (by omega)
    exact Or.inr ⟨g, o, cap - 1, rfl, by omega, ha, fun j u hu => by simp [flat] at hu⟩
  · exact Or.inr ⟨g, o + 1, cap - 1, rfl, by omega, ha, hd⟩

/-- a value and a mark written, in either order -/
theorem put_VT {w : World} {x bv cv bt ct k most : Nat} {gv : Value} {V : List Int} {T : List Bool} {G : List Int} {y : Int} (h : RP w x (.slice (some ⟨bv, 0, none⟩) V.length cv) (.slice (some ⟨bt, 0, none⟩) T.length ct) gv V T G most) :
    RP ((w.setCell ⟨bv, k, none⟩ (.int .i64 y)).setCell ⟨bt, k, none⟩ (.bool true)) x (.slice (some ⟨bv, 0, none⟩) V.length cv) (.slice (some ⟨bt, 0, none⟩) T.length ct) gv (V.set k y) (T.set k true) G most ∧
    Fr (fun j => j = bv ∨ j = bt) w ((w.setCell ⟨bv, k, none⟩ (.int .i64 y)).setCell ⟨bt, k, none⟩ (.bool true)) := by
  have hv : Fr (fun j => j = bv) w (w.setCell ⟨bv, k, none⟩ (.int .i64 y)) := Fr.setCell (p := ⟨bv, k, none⟩) (Fr.refl (fun j => j = bv) w) (fun _ => rfl) _
  have ht : Fr (fun j => j = bt) (w.setCell ⟨bv, k, none⟩ (.int .i64 y)) ((w.setCell ⟨bv, k, none⟩ (.int .i64 y)).setCell ⟨bt, k, none⟩ (.bool true)) := Fr.setCell (p := ⟨bt, k, none⟩) (Fr.refl (fun j => j = bt) _) (fun _ => rfl) _
  have hvx : bv ≠ x := h.vx rfl
  have htx : bt ≠ x := h.tx rfl
  have hvt : bv ≠ bt := fun e => h.vt rfl (by rw [e]; rfl)
  have hg : ∀ j, gv.ownBlock = some j → j ≠ bv ∧ j ≠ bt := fun j hj => ⟨fun e => (h.2.2.2.2 j hj).2.1 (by rw [e]; rfl), fun e => (h.2.2.2.2 j hj).2.2 (by rw [e]; rfl)⟩
  have own : ∀ {b n c j : Nat}, (Value.slice (some ⟨b, 0, none⟩) n c).ownBlock = some j → j = b := fun hj => (Option.some.inj hj).symm
  refine ⟨⟨(h.1.fr hv (fun e => hvx e.symm)).fr ht (fun e => htx e.symm), (own_put (f := fun n => .int .i64 n) (fun _ => rfl) h.2.1 k y).fr ht (fun j hj s => hvt ((own hj).symm.trans s)), own_put (f := fun n => .bool n) (fun _ => rfl) (h.2.2.1.fr hv (fun j hj s => hvt (s.symm.trans (own hj)))) k true, (h.2.2.2.1.frS hv (fun j hj s => (hg j hj).1 s)).frS ht (fun j hj s => (hg j hj).2 s), h.2.2.2.2⟩, (hv.mono fun j hj _ => Or.inl hj).trans (ht.mono fun j hj _ => Or.inr hj)⟩
theorem put_TV {w : World} {x bv cv bt ct k most : Nat} {gv : Value} {V : List Int} {T : List Bool} {G : List Int} {y : Int} (h : RP w x (.slice (some ⟨bv, 0, none⟩) V.length cv) (.slice (some ⟨bt, 0, none⟩) T.length ct) gv V T G most) :
    RP ((w.setCell ⟨bt, k, none⟩ (.bool true)).setCell ⟨bv, k, none⟩ (.int .i64 y)) x (.slice (some ⟨bv, 0, none⟩) V.length cv) (.slice (some ⟨bt, 0, none⟩) T.length ct) gv (V.set k y) (T.set k true) G most ∧
    Fr (fun j => j = bv ∨ j = bt) w ((w.setCell ⟨bt, k, none⟩ (.bool true)).setCell ⟨bv, k, none⟩ (.int .i64 y)) := by
  have ht : Fr (fun j => j = bt) w (w.setCell ⟨bt, k, none⟩ (.bool true)) := Fr.setCell (p := ⟨bt, k, none⟩) (Fr.refl (fun j => j = bt) w) (fun _ => rfl) _
  have hv : Fr (fun j => j = bv) (w.setCell ⟨bt, k, none⟩ (.bool true)) ((w.setCell ⟨bt, k, none⟩ (.bool true)).setCell ⟨bv, k, none⟩ (.int .i64 y)) := Fr.setCell (p := ⟨bv, k, none⟩) (Fr.refl (fun j => j = bv) _) (fun _ => rfl) _
  have hvx : bv ≠ x := h.vx rfl
  have htx : bt ≠ x := h.tx rfl
  have hvt : bv ≠ bt := fun e => h.vt rfl (by rw [e]; rfl)
  have hg : ∀ j, gv.ownBlock = some j → j ≠ bv ∧ j ≠ bt := fun j hj => ⟨fun e => (h.2.2.2.2 j hj).2.1 (by rw [e]; rfl), fun e => (h.2.2.2.2 j hj).2.2 (by rw [e]; rfl)⟩
  have own : ∀ {b n c j : Nat}, (Value.slice (some ⟨b, 0, none⟩) n c).ownBlock = some j → j = b := fun hj => (Option.some.inj hj).symm
  refine ⟨⟨(h.1.fr ht (fun e => htx e.symm)).fr hv (fun e => hvx e.symm), own_put (f := fun n => .int .i64 n) (fun _ => rfl) (h.2.1.fr ht (fun j hj s => hvt ((own hj).symm.trans s))) k y, (own_put (f := fun n => .bool n) (fun _ => rfl) h.2.2.1 k true).fr hv (fun j hj s => hvt (s.symm.trans (own hj))), (h.2.2.2.1.frS ht (fun j hj s => (hg j hj).2 s)).frS hv (fun j hj s => (hg j hj).1 s), h.2.2.2.2⟩, (ht.mono fun j hj _ => Or.inr hj).trans (hv.mono fun j hj _ => Or.inl hj)⟩

section
variable (w : World)
set_option maxHeartbeats 4000000 in
theorem rTake_full {x : Nat} {vv tv gv : Value} {V : List Int} {T : List Bool} {G : List Int} {most : Nat} {y : Int} (h : RP w x vv tv gv V T G most) (hl : T.length ≤ 1000) (hm : most ≤ nt T) :
    Calls Try.prog 28 #[.pointer (some ⟨x, 0, none⟩), .int .i64 y] w fun e w' => e = .returned (.tuple #[.int .i64 0, .int .i64 4]) ∧ Fr Nil w w' := by
  have KN := Lib.hid (fun W (hW : Fr Nil w W) => N_any W (h.nil hW) hl)
  have hm' : (most : Int) ≤ (nt T : Nat) := by omega
  have q3 := fun p : FrW Nil w => quiet_cell h.1 (S := Nil) id p 3
  simp only [show ((#[vv, tv, gv, .int .i64 most] : Array Value)[3]? = some (.int .i64 most)) from rfl] at q3
  clear h
  generalize nt T = n at *
  go_enter Try.func28, Try.ntmps28
  go_wp2_with fail
  refine wp_region_quiet_fr Nil (by kernel_rfl) (by kernel_rfl) ?_
  repeat (go_big_quiet_step (first
    | (go_at_call 12; with_reducible exact quiet_call (KN.out _ (FrW.fr _)))))
  refine wpQuiet_nil ?_
  intro w1 hw'
  obtain ⟨⟨wq, hfq⟩, hw''⟩ := hw'
  subst hw''
  clear q3
  go_wp2_with fail
  exact bodyPost_ret (v := .tuple #[.int .i64 0, .int .i64 4]) (by simp [results, Try.results28, go_sem]) rfl ⟨rfl, hfq⟩

set_option maxHeartbeats 8000000 in
theorem rTake_reuse {x k : Nat} {vv tv gv : Value} {V : List Int} {T : List Bool} {G : List Int} {most : Nat} {y : Int} (h : RP w x vv tv gv V T (((k : Int) + 1) :: G) most) (hl : T.length ≤ 1000) (hV : V.length = T.length) (hk : k < T.length) (hm : nt T < most) :
    Calls Try.prog 28 #[.pointer (some ⟨x, 0, none⟩), .int .i64 y] w fun e w' => e = .returned (.tuple #[.int .i64 ((k : Int) + 1), .int .i64 0]) ∧ Fr (RF x vv tv gv) w w' ∧ RH w x vv tv gv (V.set k y) (T.set k true) G most w' := by
  have KN := Lib.hid (fun W (hW : Fr Nil w W) => N_any W (h.nil hW) hl)
  have hm' : ((nt T : Nat) : Int) < (most : Int) := by omega
  have q3 := fun p : FrW Nil w => quiet_cell h.1 (S := Nil) id p 3
  simp only [show ((#[vv, tv, gv, .int .i64 most] : Array Value)[3]? = some (.int .i64 most)) from rfl] at q3
  have H := Lib.hid h
  obtain ⟨u, hu⟩ : ∃ u, V[k]? = some u := ⟨V[k]'(by omega), List.getElem?_eq_getElem _⟩
  obtain ⟨t, ht⟩ : ∃ u, T[k]? = some u := ⟨T[k]'(by omega), List.getElem?_eq_getElem _⟩
  have k3 : (k : Int) < V.length := by omega
  have k4 : (k : Int) ≤ 1000 := by omega
  have k5 : (0 : Int) ≤ k := by omega
  have k6 : (k : Int) < T.length := by omega
  rcases h.2.2.2.1 with ⟨_, h0⟩ | ⟨gg, o, cap, rfl, hc, hgg, hr⟩
  · cases h0
  have HR := Lib.hid (fun W (hf : Fr Nil w W) => (hr.fr hf hgg id))
  have hc1 : 1 ≤ cap := by simp at hc; omega
  have hc2 : (1 : Int) ≤ cap := by omega
  have HC := Lib.hid hc
  clear h hr hc
  generalize nt T = n at *
  go_enter Try.func28, Try.ntmps28
  go_wp2_with fail
  refine wp_region_quiet_fr Nil (by kernel_rfl) (by kernel_rfl) ?_
  repeat (go_big_quiet_step (first
    | (go_at_call 12; with_reducible exact quiet_call (KN.out _ (FrW.fr _)))))
  refine wpQuiet_nil ?_
  intro w1 hw'
  obtain ⟨⟨wq, hfq⟩, hw''⟩ := hw'
  subst hw''
  clear q3
  have H1 := Lib.hid (H.out.nil hfq)
  have HF1 := Lib.hid hfq
  obtain ⟨c0, c1, c2, c3, _, _, f2, _⟩ := H1.out.1.c4
  have hr0 : w1.cell? ⟨gg, o, none⟩ = some (.int .i64 ((k : Int) + 1)) := (HR.out _ hfq) 0 _ rfl
  have HT := Lib.hid (tail_one EI_ok rfl (by have := HC.out; simpa using this) (Nat.lt_of_lt_of_le hgg hfq.size) (HR.out _ hfq))
  have hlen : (((k : Int) + 1) :: G).length = G.length + 1 := rfl
  rw [hlen] at *
  have hg0 : (0 : Int) < ((G.length + 1 : Nat) : Int) := by omega
  have hg1 : (1 : Int) ≤ ((G.length + 1 : Nat) : Int) := by omega
  clear hfq hlen
  go_upto_region 6 with fail
  have HGB := Lib.hid (show ∀ j, (Value.slice (if cap = 1 then some ⟨gg, o, none⟩ else some ⟨gg, o + 1, none⟩) G.length (cap - 1)).ownBlock = some j → j = gg from fun j hj => by
    split at hj <;> exact (Option.some.inj hj).symm)
  generalize Value.slice (if cap = 1 then some ⟨gg, o, none⟩ else some ⟨gg, o + 1, none⟩) G.length (cap - 1) = gv2 at *
  have hA := H1.out
  obtain ⟨bv, cv, rfl, hcv, hbv, _, _, _⟩ := own_at (f := fun n => .int .i64 n) EI_ok rfl (fun _ => rfl) hA.2.1 hu
  obtain ⟨bt, ct, rfl, hct, hbt, _, _, _⟩ := own_at (f := fun n => .bool n) EB_ok rfl (fun _ => rfl) hA.2.2.1 ht
  have hvx : bv ≠ x := hA.vx rfl
  have htx : bt ≠ x := hA.tx rfl
  have hvt : bv ≠ bt := fun e => hA.vt rfl (by rw [e]; rfl)
  have hgv := hA.2.2.2.2 gg rfl
  have hfx : Fr (fun j => j = x) w1 (w1.setCell ⟨x, 2, none⟩ gv2) := Fr.setCell (p := ⟨x, 2, none⟩) (Fr.refl (fun j => j = x) w1) (fun _ => rfl) _
  have own : ∀ {b n c j : Nat}, (Value.slice (some ⟨b, 0, none⟩) n c).ownBlock = some j → j = b := fun hj => (Option.some.inj hj).symm
  have hB : RP (w1.setCell ⟨x, 2, none⟩ gv2) x (.slice (some ⟨bv, 0, none⟩) V.length cv) (.slice (some ⟨bt, 0, none⟩) T.length ct) gv2 V T G most :=
    ⟨hA.1.put 2 _, hA.2.1.fr hfx (fun j hj s => hvx ((own hj).symm.trans s)), hA.2.2.1.fr hfx (fun j hj s => htx ((own hj).symm.trans s)), HT.out.frS hfx (fun j hj s => hgv.1 ((HGB.out j hj).symm.trans s)), fun j hj => by rw [HGB.out j hj]; exact hgv⟩
  have HFx := Lib.hid (show Fr (RF x (.slice (some ⟨bv, 0, none⟩) V.length cv) (.slice (some ⟨bt, 0, none⟩) T.length ct) (.slice (some ⟨gg, o, none⟩) (G.length + 1) cap)) w (w1.setCell ⟨x, 2, none⟩ gv2) from HF1.out.of_nil.trans (hfx.mono fun j hj _ => Or.inl hj))
  have HRP := Lib.hid hB
  clear hA hfx hgv HT c0 c1 c2 c3 f2 hr0 H1 H KN HR HF1
  generalize w1.setCell ⟨x, 2, none⟩ gv2 = w2 at *
  obtain ⟨c0, c1, c2, c3, _, _, _, _⟩ := hB.1.c4
  obtain ⟨bv', cv', e1, _, _, _, d0, df⟩ := own_at (f := fun n => .int .i64 n) EI_ok rfl (fun _ => rfl) hB.2.1 hu
  obtain ⟨bt', ct', e2, _, _, _, g0, gf⟩ := own_at (f := fun n => .bool n) EB_ok rfl (fun _ => rfl) hB.2.2.1 ht
  obtain rfl : bv = bv' := by simp at e1; exact e1.1
  obtain rfl : bt = bt' := by simp at e2; exact e2.1
  have hvt' : ¬ bt = bv := fun e => hvt e.symm
  clear hB hu ht e1 e2 own
  go_region
  all_goals
    go_wp2_with fail
    have key := put_VT (k := k) (y := y) HRP.out
    have key2 := put_TV (k := k) (y := y) HRP.out
    refine bodyPost_ret (v := .tuple #[.int .i64 ((k : Int) + 1), .int .i64 0]) (by simp [results, Try.results28, go_sem]) rfl ⟨rfl, HFx.out.trans ?_, .slice (some ⟨bv, 0, none⟩) V.length cv, .slice (some ⟨bt, 0, none⟩) T.length ct, gv2, ?_, fun j hj => ?_⟩
    · first | exact (key.2.mono fun j hj _ => hj.elim (fun e => Or.inr (Or.inl (by rw [e]; rfl))) (fun e => Or.inr (Or.inr (Or.inl (by rw [e]; rfl))))).drew | exact (key2.2.mono fun j hj _ => hj.elim (fun e => Or.inr (Or.inl (by rw [e]; rfl))) (fun e => Or.inr (Or.inr (Or.inl (by rw [e]; rfl))))).drew
    · first | exact key.1.nil (Fr.refl _ _).drew | exact key2.1.nil (Fr.refl _ _).drew
    · rcases hj with hj | hj | hj | hj
      · exact Or.inl (Or.inl hj)
      · exact Or.inl (Or.inr (Or.inl hj))
      · exact Or.inl (Or.inr (Or.inr (Or.inl hj)))
      · exact Or.inl (Or.inr (Or.inr (Or.inr (by rw [HGB.out j hj]; rfl))))
end
end Go.Proofs.Ytemofdbepalnkaa.PoolJ
