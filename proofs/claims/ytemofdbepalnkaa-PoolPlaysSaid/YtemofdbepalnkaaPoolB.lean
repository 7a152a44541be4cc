/- Chapter 6: fresh, take; what is handed to Catch by Give, Get. -/
import Derived.Test.YtemofdbepalnkaaPoolA
import Derived.Deep.RegionWith
import Derived.Deep.RegionHeld3
namespace Go.Proofs.Ytemofdbepalnkaa.PoolB
open Go.RowKit Base Slices Quiet TrapA TrapB TrapG PoolA
set_option linter.unusedVariables false
set_option linter.unusedSimpArgs false

/-- the pool behind a call -/
def Held (w : World) (g : Nat) (v : Value) (l : List Slot) (free n : Int) (most : Nat) (w' : World) : Prop := ∃ v', Pl w' g v' l free n most ∧ Moved w v v'

section
variable (w : World)
set_option maxHeartbeats 2000000 in
theorem fresh_reuse {g : Nat} {v : Value} {l : List Slot} {n : Int} {most k : Nat} {p : Slot} (h : Pl w g v l ((k : Int) + 1) n most) (hp : l[k]? = some p) (hl : l.length ≤ 1048576) :
    Calls Try.prog 36 #[.pointer (some ⟨g, 0, none⟩)] w fun e w' => e = .returned (.int .i64 ((k : Int) + 1)) ∧ Fr (Foot g v) w w' ∧ Held w g v l p.2.1 n most w' := by
  obtain ⟨b, c, rfl, hc, hbg, hb, hk, d0, d1, d2, fz⟩ := h.slot hp
  obtain ⟨c0, c1, c2, c3, f0, f1, f2, f3⟩ := h.1.c4
  have hk0 : (0 : Int) < (k : Int) + 1 := by omega
  have hk2 : (k : Int) < l.length := by omega
  have hk3 : (k : Int) ≤ 1048576 := by omega
  have H := Lib.hid h
  clear h hp fz hl hc
  go_enter Try.func36, Try.ntmps36
  go_wp2_with fail
  go_ret
  have hf : Fr (fun k => k = g) w (w.setCell ⟨g, 1, none⟩ (.int .i64 p.2.1)) := Fr.setCell (p := ⟨g, 1, none⟩) (Fr.refl (fun k => k = g) w) (fun _ => rfl) _
  exact ⟨rfl, hf.mono fun k hk _ => Or.inl hk, _, ⟨H.out.1.put 1 _, H.out.2.fr hf (fun k hk s => H.out.apart hk s)⟩, fun k hk => Or.inl hk⟩

set_option maxHeartbeats 2000000 in
theorem fresh_full {g : Nat} {v : Value} {l : List Slot} {n : Int} {most : Nat} (h : Pl w g v l 0 n most) (hm : most ≤ l.length) (hl : l.length ≤ 1048576) :
    Calls Try.prog 36 #[.pointer (some ⟨g, 0, none⟩)] w fun e w' => e = .panicked [fault 0 4] ∧ Fr Nil w w' := by
  obtain ⟨c0, c1, c2, c3, f0, f1, f2, f3⟩ := h.1.c4
  obtain ⟨A, c, rfl⟩ := (h.2.sl ES_ok).shape
  have H := Lib.hid (fun W => Throw_bad 0 4 (by decide) W)
  have hm' : (most : Int) ≤ l.length := by omega
  clear h hm
  go_enter Try.func36, Try.ntmps36
  go_wp2_with fail
  go_quiet (fail)
  go_wp2_with fail
  refine (H.out _).mono ?_
  rintro e w1 ⟨rfl, rfl⟩
  exact ⟨rfl, rfl, by (repeat' (with_reducible first | refine Fr.setCell ?_ (fun hlt => absurd hlt (by dsimp only; omega)) _ | refine Fr.alloc ?_ _ | refine Fr.drewN ?_ _ | refine Fr.drew ?_ | exact Fr.refl _ _))⟩

set_option maxHeartbeats 4000000 in
theorem fresh_new {g : Nat} {v : Value} {l : List Slot} {n : Int} {most : Nat} (h : Pl w g v l 0 n most) (hm : l.length < most) (hl : l.length ≤ 900000) :
    Calls Try.prog 36 #[.pointer (some ⟨g, 0, none⟩)] w fun e w' => e = .returned (.int .i64 ((l.length : Int) + 1)) ∧ Fr (Foot g v) w w' ∧ Held w g v (l ++ [(0, 0, false)]) 0 n most w' := by
  obtain ⟨c0, c1, c2, c3, f0, f1, f2, f3⟩ := h.1.c4
  have HO := Lib.hid h.2
  have HB := Lib.hid h.1
  have HA := Lib.hid (fun k hk => h.apart (k := k) hk)
  have HG := Lib.hid h.1.lt
  obtain ⟨A, c, hv⟩ := (h.2.sl ES_ok).shape
  subst hv
  have hm' : (l.length : Int) < most := by omega
  have hl' : (l.length : Int) ≤ 900000 := by omega
  have HL := Lib.hid (show l.length + [((0, 0, false) : Slot)].length ≤ 1000000 by simp; omega)
  clear h hm hl
  go_enter Try.func36, Try.ntmps36
  go_wp2_with fail
  go_quiet (fail)
  go_wp2_with (at_builtin; refine wpList_app ES_ok rfl (.tmp 40) (.tmp 42) 49 rfl rfl 0 (.slice A l.length c) (.slice (some ⟨w.heap.size, 0, none⟩) 1 1) l [((0, 0, false) : Slot)] rfl (HO.out.fr (by (repeat' (with_reducible first | refine Fr.setCell ?_ (fun hlt => absurd hlt (by dsimp only; omega)) _ | refine Fr.alloc ?_ _ | refine Fr.drewN ?_ _ | refine Fr.drew ?_ | exact Fr.refl _ _))) (fun _ _ s => s)) rfl (lit_sl ES_ok [((0, 0, false) : Slot)] rfl rfl 54).come HL.out (Nat.zero_le _) ?_; intro v' w1 o1 o2 o3 o4; obtain ⟨A2, c2', hv'⟩ := (o1.sl ES_ok).shape; subst hv'; have hB1 := Bk.fr ((HB.out.drewN _).alloc _) o2 (fun s => HA.out _ s rfl); obtain ⟨k0, k1, k2, k3, e0, e1, e2, e3⟩ := hB1.c4; have HB1 := Lib.hid hB1; have HO1 := Lib.hid o1; have HF1 := Lib.hid o2; have HM1 := Lib.hid o3; clear hB1 o1 o2 o3 o4)
  have ho1 := HO1.out
  have hm1 := HM1.out
  rw [List.length_append, List.length_singleton] at ho1 hm1
  have hne : ∀ k, (Value.slice A2 (l.length + 1) c2').ownBlock = some k → k ≠ g := fun k hk => by
    rcases hm1 k hk with h1 | h1
    · exact HA.out k h1
    · have := HG.out
      simp at h1
      omega
  have hf1 : Fr (Foot g (.slice A l.length c)) w w1 := Fr.trans (by (repeat' (with_reducible first | refine Fr.setCell ?_ (fun hlt => absurd hlt (by dsimp only; omega)) _ | refine Fr.alloc ?_ _ | refine Fr.drewN ?_ _ | refine Fr.drew ?_ | exact Fr.refl _ _))) (HF1.out.mono fun k hk _ => Or.inr hk)
  go_ret
  refine ⟨rfl, Fr.setCell (p := ⟨g, 0, none⟩) hf1 (fun _ => Or.inl rfl) _, .slice A2 (l.length + 1) c2', ⟨HB1.out.put 0 _, ho1.fr (S := fun k => k = g) (Fr.setCell (p := ⟨g, 0, none⟩) (Fr.refl (fun k => k = g) _) (fun _ => rfl) _) hne⟩, fun k hk => ?_⟩
  rcases hm1 k hk with h1 | h1
  · exact Or.inl h1
  · exact Or.inr (by simp at h1; omega)

set_option maxHeartbeats 4000000 in
theorem take_of {g k : Nat} {v : Value} {l : List Slot} {free n x : Int} {most : Nat} (hf : Calls Try.prog 36 #[.pointer (some ⟨g, 0, none⟩)] w fun e w' => e = .returned (.int .i64 ((k : Int) + 1)) ∧ Fr (Foot g v) w w' ∧ Held w g v l free n most w')
    (hk : k < l.length) (hl : l.length ≤ 1048576) (hn : -1048576 ≤ n ∧ n ≤ 1048576) (hg : g < w.heap.size) :
    Calls Try.prog 25 #[.pointer (some ⟨g, 0, none⟩), .int .i64 x] w fun e w' => e = .returned (.int .i64 ((k : Int) + 1)) ∧ Fr (Foot g v) w w' ∧ Held w g v (l.set k (x, 0, true)) free (n + 1) most w' := by
  have H := Lib.hid hf
  obtain ⟨n0, n1⟩ := hn
  have hk3 : (k : Int) ≤ 1048576 := by omega
  have hk2 : (k : Int) < l.length := by omega
  clear hf
  go_enter Try.func25, Try.ntmps25
  go_wp2_with fail
  refine H.out.mono ?_
  rintro e w1 ⟨rfl, hf1, v1, hp1, hm1⟩
  obtain ⟨p0, hp0⟩ : ∃ p, l[k]? = some p := ⟨l[k], List.getElem?_eq_getElem hk⟩
  obtain ⟨b, c, hv1, hc, hbg, hb, hkl, d0, d1, d2, fz⟩ := hp1.slot hp0
  subst hv1
  obtain ⟨c0, c1, c2, c3, f0, f1, f2, f3⟩ := hp1.1.c4
  have z0 := fz (k * 3)
  have z1 := fz (k * 3 + 1)
  have z2 := fz (k * 3 + 2)
  have hgb : ¬ g = b := fun e => hbg e.symm
  have HF := Lib.hid hf1
  have HP := Lib.hid hp1
  have HM := Lib.hid hm1
  have HK := Lib.hid hk
  clear hf1 hp1 hm1 fz hc hk hp0
  go_wp2_with fail
  go_ret
  have e1 := own_set HP.out.2 (x, 0, true) k HK.out
  dsimp only at e1
  obtain ⟨W, hW⟩ : ∃ W, ((w1.setCell ⟨b, k * 3, none⟩ (.int .i64 x)).setCell ⟨b, k * 3 + 1, none⟩ (.int .i64 0)).setCell ⟨b, k * 3 + 2, none⟩ (.bool true) = W := ⟨_, rfl⟩
  have hfb : Fr (fun k => k = b) w1 W := by
    rw [← hW]
    exact Fr.setCell (p := ⟨b, k * 3 + 2, none⟩) (Fr.setCell (p := ⟨b, k * 3 + 1, none⟩) (Fr.setCell (p := ⟨b, k * 3, none⟩) (Fr.refl (fun k => k = b) w1) (fun _ => rfl) _) (fun _ => rfl) _) (fun _ => rfl) _
  rw [hW] at e1 ⊢
  have hB := (HP.out.1.fr hfb (fun s => hgb s)).put 2 (.int .i64 (n + 1))
  have hfg : Fr (fun k => k = g) W (W.setCell ⟨g, 2, none⟩ (.int .i64 (n + 1))) := Fr.setCell (p := ⟨g, 2, none⟩) (Fr.refl (fun k => k = g) W) (fun _ => rfl) _
  have h12 : Fr (fun j => j = b ∨ j = g) w1 (W.setCell ⟨g, 2, none⟩ (.int .i64 (n + 1))) := (hfb.mono fun j hj _ => Or.inl hj).trans (hfg.mono fun j hj _ => Or.inr hj)
  refine ⟨rfl, HF.out.then h12 (fun j hj hlt => ?_), _, ⟨hB, e1.fr hfg (fun j hj s => by simp [Value.ownBlock] at hj; exact hbg (hj.trans s))⟩, HM.out⟩
  rcases hj with rfl | rfl
  · rcases HM.out j rfl with e | e
    · exact Or.inr e
    · omega
  · exact Or.inl rfl

theorem at_at {g b c k : Nat} {l : List Slot} {free n : Int} {most : Nat} {p : Slot} (h : Pl w g (.slice (some ⟨b, 0, none⟩) l.length c) l free n most) (hp : l[k]? = some p) (ht : p.2.2 = true) (hl : l.length ≤ 1048576) :
    Calls Try.prog 22 #[.pointer (some ⟨g, 0, none⟩), .int .i64 ((k : Int) + 1)] w fun e w' => e = .returned (.pointer (some ⟨b, k * 3, none⟩)) ∧ w' = w := by
  obtain ⟨b', c', hv, h'⟩ := at_ok w h hp ht hl
  simp only [Value.slice.injEq, Option.some.injEq, Addr.mk.injEq, and_true, true_and] at hv
  obtain ⟨rfl, rfl⟩ := hv
  exact h'

set_option maxHeartbeats 8000000 in
/-- what Give's function needs of memory: where the pool's pointer and the number lie -/
theorem give1_ok {a b g k : Nat} {v : Value} {l : List Slot} {free n : Int} {most : Nat} {p : Slot} (ha : Bk w a 23 #[.pointer (some ⟨g, 0, none⟩)]) (hb : Bk w b 3 #[.int .i64 ((k : Int) + 1)])
    (h : Pl w g v l free n most) (hp : l[k]? = some p) (ht : p.2.2 = true) (hl : l.length ≤ 1048576) (hn : -1048576 ≤ n ∧ n ≤ 1048576) (hab : ¬ Foot g v a ∧ ¬ Foot g v b) :
    Calls Try.prog 21 #[.pointer (some ⟨a, 0, none⟩), .pointer (some ⟨b, 0, none⟩)] w fun e w' => e = .returned (.tuple #[]) ∧ Fr (Foot g v) w w' ∧ Held w g v (l.set k (0, free, false)) ((k : Int) + 1) (n - 1) most w' := by
  obtain ⟨b1, c1, hv, hc, hbg, hbl, hk, d0, d1, d2, fz⟩ := h.slot hp
  subst hv
  have hat := fun W (hW : Fr Nil w W) => at_at W (h.nil hW) hp ht hl
  obtain ⟨a0, _⟩ := ha.c1
  obtain ⟨q0, _⟩ := hb.c1
  obtain ⟨e0, e1, e2, e3, f0, f1, f2, f3⟩ := h.1.c4
  have z0 := fz (k * 3)
  have z1 := fz (k * 3 + 1)
  have z2 := fz (k * 3 + 2)
  have hag : ¬ a = g := fun e => hab.1 (Or.inl e)
  have hab1 : ¬ a = b1 := fun e => hab.1 (Or.inr (by rw [e]; rfl))
  have hbg' : ¬ b = g := fun e => hab.2 (Or.inl e)
  have hbb : ¬ b = b1 := fun e => hab.2 (Or.inr (by rw [e]; rfl))
  have hgb : ¬ g = b1 := fun e => hbg e.symm
  have hab2 : ¬ b1 = a := fun e => hab1 e.symm
  have hbb2 : ¬ b1 = b := fun e => hbb e.symm
  have hag2 : ¬ g = a := fun e => hag e.symm
  have hbg2 : ¬ g = b := fun e => hbg' e.symm
  obtain ⟨n0, n1⟩ := hn
  have hk3 : (k : Int) ≤ 1048576 := by omega
  have HAT := Lib.hid hat
  have H := Lib.hid h
  have HK := Lib.hid hk
  clear hat h hp ht ha hb fz hc hab
  go_enter Try.func21, Try.ntmps21
  go_wp2_with fail
  go_region_held3 (fun w' => w'.cell? ⟨a, 0, none⟩ = some (.pointer (some ⟨g, 0, none⟩)) ∧ w'.cell? ⟨b, 0, none⟩ = some (.int .i64 ((k : Int) + 1)) ∧ w'.cell? ⟨g, 1, none⟩ = some (.int .i64 free)) (first | (go_keep; done))
    ((go_at_call 22; refine (HAT.out _ (by (repeat' (with_reducible first | refine Fr.setCell ?_ (fun hlt => absurd hlt (by dsimp only; omega)) _ | refine Fr.alloc ?_ _ | refine Fr.drewN ?_ _ | refine Fr.drew ?_ | exact Fr.refl _ _)))).mono ?_; rintro e w1 ⟨rfl, rfl⟩))
  go_wp2_with fail
  go_end0
  have e1 := own_set H.out.2 (0, free, false) k HK.out
  dsimp only at e1
  obtain ⟨W, hW⟩ : ∃ W, ((w.setCell ⟨b1, k * 3, none⟩ (.int .i64 0)).setCell ⟨b1, k * 3 + 1, none⟩ (.int .i64 free)).setCell ⟨b1, k * 3 + 2, none⟩ (.bool false) = W := ⟨_, rfl⟩
  have hfb : Fr (fun k => k = b1) w W := by
    rw [← hW]
    exact Fr.setCell (p := ⟨b1, k * 3 + 2, none⟩) (Fr.setCell (p := ⟨b1, k * 3 + 1, none⟩) (Fr.setCell (p := ⟨b1, k * 3, none⟩) (Fr.refl (fun k => k = b1) w) (fun _ => rfl) _) (fun _ => rfl) _) (fun _ => rfl) _
  rw [hW] at e1 ⊢
  have hB := ((H.out.1.fr hfb (fun s => hgb s)).put 1 (.int .i64 ((k : Int) + 1))).put 2 (.int .i64 (n - 1))
  have hfg : Fr (fun k => k = g) W (((W.setCell ⟨g, 1, none⟩ (.int .i64 ((k : Int) + 1))).setCell ⟨g, 2, none⟩ (.int .i64 (n - 1))).drew) := (Fr.setCell (p := ⟨g, 2, none⟩) (Fr.setCell (p := ⟨g, 1, none⟩) (Fr.refl (fun k => k = g) W) (fun _ => rfl) _) (fun _ => rfl) _).drew
  exact ⟨rfl, (hfb.mono fun j hj _ => Or.inr (by rw [hj]; rfl)).trans (hfg.mono fun j hj _ => Or.inl hj), _, ⟨hB.drew, e1.fr hfg (fun j hj s => by simp [Value.ownBlock] at hj; exact hbg (hj.trans s))⟩, fun j hj => Or.inl hj⟩

theorem get1_ok {a b d g k : Nat} {v : Value} {l : List Slot} {free n : Int} {most : Nat} {p : Slot} {y : Value} (ha : Bk w a 23 #[.pointer (some ⟨g, 0, none⟩)]) (hb : Bk w b 3 #[.int .i64 ((k : Int) + 1)]) (hd : Bk w d 3 #[y])
    (h : Pl w g v l free n most) (hp : l[k]? = some p) (ht : p.2.2 = true) (hl : l.length ≤ 1048576) :
    Calls Try.prog 30 #[.pointer (some ⟨a, 0, none⟩), .pointer (some ⟨b, 0, none⟩), .pointer (some ⟨d, 0, none⟩)] w fun e w' => e = .returned (.tuple #[]) ∧ w' = w.setCell ⟨d, 0, none⟩ (.int .i64 p.1) := by
  obtain ⟨b1, c1, hv, hc, hbg, hbl, hk, d0, d1, d2, fz⟩ := h.slot hp
  subst hv
  have HAT := Lib.hid (at_at w h hp ht hl)
  obtain ⟨a0, _⟩ := ha.c1
  obtain ⟨q0, _⟩ := hb.c1
  obtain ⟨y0, y1⟩ := hd.c1
  clear h hp ht ha hb hd fz hc
  go_enter Try.func30, Try.ntmps30
  go_wp2_with fail
  refine HAT.out.mono ?_
  rintro e w1 ⟨rfl, rfl⟩
  go_wp2_with fail
  go_end0
  exact ⟨rfl, rfl⟩
end
end Go.Proofs.Ytemofdbepalnkaa.PoolB
