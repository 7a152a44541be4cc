/- Chapter 41: Few; Of, Merge, check, Check. -/
import Derived.Test.YtalbaopfdejooaaHullK
namespace Go.Proofs.Ytalbaopfdejooaa.HullL
open Go.RowKit Base Slices RowsA KernA AreaA HullD HullE HullF HullG HullH HullI HullJ HullK Quiet
set_option linter.unusedVariables false
set_option linter.unusedSimpArgs false

theorem of_made {g : Nat} {n m : Nat} {i : Nat} (h : Slices.Of (.slice (some ⟨g, 0, none⟩) n m) i) : i = g := by
  unfold Slices.Of Value.ownBlock at h
  simp at h
  exact h.symm

set_option maxHeartbeats 2000000 in
theorem few_any (l : List Pn) (n : Nat) (v : Value) (w : World) (hn : n ≤ 1000) (hv : Come EPt w v l) :
    Calls Try.prog 8 #[v, .int .i64 (n : Int)] w fun e w' => ∃ u, e = .returned u ∧ Fr Nil w w' ∧ Own EPt w' w.heap.size u (l.take n) := by
  by_cases h : n < l.length
  · rcases hv with ⟨rfl, rfl⟩ | ⟨a, cap, rfl, hc, hr⟩
    · simp at h
    have hlt : (l.take n).length = n := by rw [List.length_take]; omega
    have HV := Lib.hid (Come.take EPt_ok (Or.inr ⟨a, cap, rfl, hc, hr⟩) n (by omega))
    have h' : (n : Int) < l.length := by omega
    have hc' : (n : Int) ≤ cap := by omega
    have h0 : (0 : Int) ≤ n := by omega
    clear hr hc
    go_enter Try.func8, Try.ntmps8
    go_wp2_with (at_builtin; refine wpList_app EPt_ok rfl (.tmp 12) (.tmp 13) 22 rfl rfl w.heap.size _ _ [] (l.take n) rfl (Own.made (Nat.le_refl _) rfl) rfl (HV.out.fr ((Fr.refl Nil w).alloc _)) (by rw [hlt]; simp; omega) (by simp) ?_; intro v3 w3 o1 o2 o3 o4; rw [List.nil_append] at o1; have HF3 := Lib.hid (show Fr Nil w w3 from ((Fr.refl Nil w).alloc (.cells #[] 34)).then o2 (fun i hi hlt => by have := of_made hi; omega)))
    go_ret
    exact ⟨_, rfl, HF3.out, o1⟩
  · rw [List.take_of_length_le (by omega)]
    have HV := Lib.hid hv
    obtain ⟨A, c, rfl⟩ := hv.shape
    have h' : ¬ (n : Int) < l.length := by omega
    clear hv
    go_enter Try.func8, Try.ntmps8
    go_wp2_with (at_builtin; refine wpList_app EPt_ok rfl (.tmp 12) (.tmp 13) 22 rfl rfl w.heap.size _ _ [] l rfl (Own.made (Nat.le_refl _) rfl) rfl (HV.out.fr ((Fr.refl Nil w).alloc _)) (by simp; omega) (by simp) ?_; intro v3 w3 o1 o2 o3 o4; rw [List.nil_append] at o1; have HF3 := Lib.hid (show Fr Nil w w3 from ((Fr.refl Nil w).alloc (.cells #[] 34)).then o2 (fun i hi hlt => by have := of_made hi; omega)))
    go_ret
    exact ⟨_, rfl, HF3.out, o1⟩

set_option maxHeartbeats 2000000 in
theorem Of_bad (l : List Pn) (v : Value) (w : World) (hl : l.length ≤ 500) (hv : Sl EPt w v l) (hb : ∃ p ∈ l, gd p = false) :
    Calls Try.prog 12 #[v] w fun e w' => e = .returned (.tuple #[.slice none 0 0, .int .i64 1]) ∧ Fr Nil w w' := by
  have K := Lib.hid (of_bad l v w hl hv hb)
  clear hv hb
  go_enter Try.func12, Try.ntmps12
  go_wp2_with fail
  refine K.out.mono ?_
  rintro e w1 ⟨rfl, hf1⟩
  go_wp2_with fail
  exact bodyPost_ret (v := .tuple #[.slice none 0 0, .int .i64 1]) (by simp [results, Try.results12, go_sem]) rfl ⟨rfl, hf1⟩
set_option maxHeartbeats 2000000 in
theorem Of_good (l : List Pn) (v : Value) (w : World) (hl : l.length ≤ 500) (hv : Sl EPt w v l) (hg : ∀ p ∈ l, gd p = true) :
    Calls Try.prog 12 #[v] w fun e w' => ∃ u h, e = .returned (.tuple #[u, .int .i64 0]) ∧ Fr Nil w w' ∧ Own EPt w' w.heap.size u h ∧ HullOf l h := by
  have K := Lib.hid (of_good l v w hl hv hg)
  clear hv hg
  go_enter Try.func12, Try.ntmps12
  go_wp2_with fail
  refine K.out.mono ?_
  rintro e w1 ⟨u, h, rfl, hf1, ho1, hh⟩
  go_wp2_with fail
  exact bodyPost_ret (v := .tuple #[u, .int .i64 0]) (by simp [results, Try.results12, go_sem]) rfl ⟨u, h, rfl, hf1, ho1, hh⟩

open Classical in
/-- it is the corners of what has a hull -/
noncomputable def chk (h : List Pn) : Bool := decide ((∀ p ∈ h, gd p = true) ∧ HullOf h h)
open Classical in
theorem chk_iff {h : List Pn} : chk h = true ↔ (∀ p ∈ h, gd p = true) ∧ HullOf h h := by unfold chk; exact decide_eq_true_iff
theorem chk_bad {h : List Pn} (hb : ∃ p ∈ h, gd p = false) : chk h = false := by
  rw [Bool.eq_false_iff]
  intro e
  obtain ⟨p, hp, hq⟩ := hb
  rw [(chk_iff.1 e).1 p hp] at hq; cases hq
theorem chk_good {h x : List Pn} (hg : ∀ p ∈ h, gd p = true) (hx : HullOf h x) : chk h = decide (x = h) := by
  by_cases e : x = h
  · rw [decide_eq_true e]; subst e; exact chk_iff.2 ⟨hg, hx⟩
  · rw [decide_eq_false e, Bool.eq_false_iff]; exact fun k => e (HullOf.unique hx (chk_iff.1 k).2)
theorem bad_or (l : List Pn) : (∃ p ∈ l, gd p = false) ∨ ∀ p ∈ l, gd p = true := by
  by_cases h : ∀ p ∈ l, gd p = true
  · exact Or.inr h
  · refine Or.inl ?_
    simp only [Classical.not_forall] at h
    obtain ⟨p, hp, hq⟩ := h
    exact ⟨p, hp, by simpa using hq⟩
theorem nodup_len : ∀ {a b : List Pn}, a.Nodup → (∀ x ∈ a, x ∈ b) → a.length ≤ b.length
  | [], b, _, _ => by simp
  | x :: a, b, h, k => by
    have hx := k x (by simp)
    obtain ⟨h1, h2⟩ := List.nodup_cons.1 h
    have := nodup_len (b := b.erase x) h2 (fun y hy => by
      have hne : y ≠ x := fun e => h1 (e ▸ hy)
      exact (List.mem_erase_of_ne hne).2 (k y (List.mem_cons_of_mem _ hy)))
    rw [List.length_erase_of_mem hx] at this
    have h0 : 0 < b.length := List.length_pos_of_mem hx
    simp only [List.length_cons]
    omega
theorem ord_nodup {P : List Pn} (h : HullA.Ord P) : P.Nodup := by
  unfold List.Nodup
  refine List.Pairwise.imp (fun {a b} hab e => ?_) h
  subst e
  exact HullA.lt_irr hab
theorem round_nodup {P h : List Pn} (hr : HullC.Round P h) : h.Nodup := by
  obtain ⟨t, r, rfl, ht, hp, hm⟩ := hr
  refine List.nodup_cons.2 ⟨fun h => ((hm t).1 h).2.1 rfl, List.Pairwise.imp (fun {a b} hab e => ?_) hp⟩
  subst e
  unfold HullC.Lf at hab
  have := (HullA.D_self t a).2.1
  omega
theorem round_sub {P h : List Pn} (hr : HullC.Round P h) : ∀ x ∈ h, x ∈ P := by
  obtain ⟨t, r, rfl, ht, hp, hm⟩ := hr
  intro x hx
  rcases List.mem_cons.1 hx with rfl | hx
  · exact List.mem_of_head? ht
  · exact ((hm x).1 hx).1
theorem hull_sub {l h : List Pn} (hh : HullOf l h) : ∀ x ∈ h, x ∈ l := by
  obtain ⟨P, hP, h1 | h1⟩ := hh
  · rw [h1.2]; simp
  · exact fun x hx => (hP.2.1 x (round_sub h1 x hx)).1
theorem hull_nodup {l h : List Pn} (hh : HullOf l h) : h.Nodup := by
  obtain ⟨P, hP, h1 | h1⟩ := hh
  · rw [h1.2]; simp
  · exact round_nodup h1
theorem hull_len {l h : List Pn} (hh : HullOf l h) : h.length ≤ l.length := nodup_len (hull_nodup hh) (hull_sub hh)

set_option maxHeartbeats 2000000 in
theorem check_any (h : List Pn) (v : Value) (w : World) (hl : h.length ≤ 500) (hv : Sl EPt w v h) :
    Calls Try.prog 34 #[v] w fun e w' => e = .returned (.bool (chk h)) ∧ Fr Nil w w' := by
  obtain ⟨b, hbb⟩ : ∃ b, chk h = b := ⟨_, rfl⟩
  rw [hbb]
  have HBB := Lib.hid hbb
  clear hbb
  rcases bad_or h with hb | hg
  · obtain rfl : b = false := by rw [← HBB.out]; exact chk_bad hb
    have K := Lib.hid (of_bad h v w hl hv hb)
    clear hv hb
    go_enter Try.func34, Try.ntmps34
    go_wp2_with fail
    refine K.out.mono ?_
    rintro e w1 ⟨rfl, hf1⟩
    go_wp2_with fail
    go_ret
    exact ⟨rfl, hf1⟩
  · have K := Lib.hid (of_good h v w hl hv hg)
    have KV := Lib.hid hv
    have HG := Lib.hid hg
    clear hv hg
    go_enter Try.func34, Try.ntmps34
    go_wp2_with fail
    refine K.out.mono ?_
    rintro e w1 ⟨u, x, rfl, hf1, ho1, hx⟩
    have HX := Lib.hid (show b = decide (x = h) by rw [← HBB.out]; exact chk_good HG.out hx)
    have hxl := hull_len hx
    have KE := Lib.hid (equal_any x h u v w1 (by omega) (by omega) (ho1.sl EPt_ok) (KV.out.fr hf1))
    have HF1 := Lib.hid hf1
    clear hf1 ho1 hx K
    rw [← HX.out] at KE
    go_wp2_with fail
    refine KE.out.mono ?_
    rintro e w2 ⟨rfl, hf2⟩
    have HF2 := Lib.hid (HF1.out.trans hf2)
    clear hf2
    go_wp2_with fail
    exact bodyPost_ret (v := .bool b) (by simp [results, Try.results34, go_sem]) rfl ⟨rfl, HF2.out⟩
theorem Check_any (h : List Pn) (v : Value) (w : World) (hl : h.length ≤ 500) (hv : Sl EPt w v h) :
    Calls Try.prog 15 #[v] w fun e w' => e = .returned (.bool (chk h)) ∧ Fr Nil w w' := by
  have K := Lib.hid (check_any h v w hl hv)
  clear hv
  generalize chk h = b at *
  go_enter Try.func15, Try.ntmps15
  go_wp2_with fail
  refine K.out.mono ?_
  rintro e w1 ⟨rfl, hf1⟩
  go_wp2_with fail
  exact bodyPost_ret (v := .bool b) (by simp [results, Try.results15, go_sem]) rfl ⟨rfl, hf1⟩

set_option maxHeartbeats 4000000 in
theorem Merge_bad (a b : List Pn) (va vb : Value) (w : World) (hla : a.length ≤ 100) (hlb : b.length ≤ 100) (hva : Sl EPt w va a) (hvb : Sl EPt w vb b) (hb : ∃ p ∈ a ++ b, gd p = false) :
    Calls Try.prog 10 #[va, vb] w fun e w' => e = .returned (.tuple #[.slice none 0 0, .int .i64 1]) ∧ Fr Nil w w' := by
  have KX := Lib.hid (fun (W : World) (hf : Fr Nil w W) h0 h1 => concat_any a b va vb w.heap.size W (by omega) (by omega) (hva.fr hf) (hvb.fr hf) h0 h1)
  obtain ⟨A, ca, rfl⟩ := hva.shape
  obtain ⟨B, cb, rfl⟩ := hvb.shape
  clear hva hvb
  go_enter Try.func10, Try.ntmps10
  go_wp2_with fail
  refine (KX.out (w.alloc (.cells #[.slice A a.length ca, .slice B b.length cb] 22)) ((Fr.refl Nil _).alloc _) (by first | (simp; done) | (go_keep; done)) (by first | (simp; done) | (go_keep; done))).mono ?_
  rintro e w1 ⟨u, rfl, hf1, ho1⟩
  have HF1 := Lib.hid (Fr.trans ((Fr.refl Nil w).alloc _) hf1)
  have K := Lib.hid (of_bad (a ++ b) u w1 (by simp; omega) (ho1.sl EPt_ok) hb)
  clear hf1 ho1 KX
  go_wp2_with fail
  refine K.out.mono ?_
  rintro e w2 ⟨rfl, hf2⟩
  go_wp2_with fail
  exact bodyPost_ret (v := .tuple #[.slice none 0 0, .int .i64 1]) (by simp [results, Try.results10, go_sem]) rfl ⟨rfl, HF1.out.trans hf2⟩
set_option maxHeartbeats 4000000 in
theorem Merge_good (a b : List Pn) (va vb : Value) (w : World) (hla : a.length ≤ 100) (hlb : b.length ≤ 100) (hva : Sl EPt w va a) (hvb : Sl EPt w vb b) (hg : ∀ p ∈ a ++ b, gd p = true) :
    Calls Try.prog 10 #[va, vb] w fun e w' => ∃ u h, e = .returned (.tuple #[u, .int .i64 0]) ∧ Fr Nil w w' ∧ Own EPt w' w.heap.size u h ∧ HullOf (a ++ b) h := by
  have KX := Lib.hid (fun (W : World) (hf : Fr Nil w W) h0 h1 => concat_any a b va vb w.heap.size W (by omega) (by omega) (hva.fr hf) (hvb.fr hf) h0 h1)
  obtain ⟨A, ca, rfl⟩ := hva.shape
  obtain ⟨B, cb, rfl⟩ := hvb.shape
  clear hva hvb
  go_enter Try.func10, Try.ntmps10
  go_wp2_with fail
  refine (KX.out (w.alloc (.cells #[.slice A a.length ca, .slice B b.length cb] 22)) ((Fr.refl Nil _).alloc _) (by first | (simp; done) | (go_keep; done)) (by first | (simp; done) | (go_keep; done))).mono ?_
  rintro e w1 ⟨u, rfl, hf1, ho1⟩
  have HF1 := Lib.hid (Fr.trans ((Fr.refl Nil w).alloc _) hf1)
  have K := Lib.hid (of_good (a ++ b) u w1 (by simp; omega) (ho1.sl EPt_ok) hg)
  clear hf1 ho1 KX
  go_wp2_with fail
  refine K.out.mono ?_
  rintro e w2 ⟨u2, h, rfl, hf2, ho2, hh⟩
  have O2 := Own.weaken (b' := w.heap.size) ho2 HF1.out.size
  clear ho2
  go_wp2_with fail
  exact bodyPost_ret (v := .tuple #[u2, .int .i64 0]) (by simp [results, Try.results10, go_sem]) rfl ⟨u2, h, rfl, HF1.out.trans hf2, O2, hh⟩
end Go.Proofs.Ytalbaopfdejooaa.HullL
