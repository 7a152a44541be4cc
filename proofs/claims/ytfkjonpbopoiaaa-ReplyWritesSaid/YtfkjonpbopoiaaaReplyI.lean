/- Chapter 30: the walks of the reader: byte, int. -/
import Derived.Test.YtfkjonpbopoiaaaReplyH
import Derived.Test.YtfkjonpbopoiaaaReplyE
import Derived.Test.YtfkjonpbopoiaaaVintD
import Derived.Test.YtfkjonpbopoiaaaTrapB
namespace Go.Proofs.Ytfkjonpbopoiaaa.ReplyI
open Go.RowKit Base Slices TrapA TrapB VintA VintB VintC VintD Quiet ReplyA ReplyD ReplyE ReplyH
set_option linter.unusedVariables false
set_option linter.unusedSimpArgs false

/-- a reader in memory, and what it has still to read -/
def Rd (D : Nat) (w : World) (g : Nat) (b : List Int) : Prop := ∃ s, Bk w g 44 #[s] ∧ Sl EB w s b ∧ ∀ k, s.ownBlock = some k → k ≠ g ∧ k < D
theorem Rd.fr {D : Nat} {w w' : World} {g : Nat} {b : List Int} (h : Rd D w g b) (hf : Fr Nil w w') : Rd D w' g b := by
  obtain ⟨s, h1, h2, h3⟩ := h
  exact ⟨s, h1.fr hf id, h2.fr hf, h3⟩
theorem Rd.frS {D : Nat} {w w' : World} {g : Nat} {b : List Int} {S : Nat → Prop} (h : Rd D w g b) (hf : Fr S w w') (hS : ∀ k, S k → k ≠ g ∧ D ≤ k) : Rd D w' g b := by
  obtain ⟨s, h1, h2, h3⟩ := h
  exact ⟨s, h1.fr hf (fun hs => (hS g hs).1 rfl), h2.frS hf (fun k hk hs => by have := (hS k hs).2; have := (h3 k hk).2; omega), h3⟩
/-- what Go's l[k:] is -/
theorem tail_sl {w : World} {g o cap : Nat} {l : List Int} (k : Nat) (hc : l.length ≤ cap) (hk : k ≤ l.length) (ha : g < w.heap.size) (hr : Row EB w g o l) : Sl EB w (.slice (if cap = k then some ⟨g, o, none⟩ else some ⟨g, o + k, none⟩) (l.length - k) (cap - k)) (l.drop k) := by
  have hld : (l.drop k).length = l.length - k := by rw [List.length_drop]
  split
  · have : l.drop k = [] := List.drop_eq_nil_of_le (by omega)
    exact Or.inr ⟨g, o, cap - k, by rw [hld], by omega, ha, by rw [this]; exact fun i p h => by cases h⟩
  · refine Or.inr ⟨g, o + k, cap - k, by rw [hld], by omega, ha, ?_⟩
    have := hr.drop EB_ok k
    simpa [EB] using this

section
variable (w : World)
theorem index_ok (x : Int) (b : List Int) (v : Value) (hv : Sl EB w v (x :: b)) :
    Calls Try.prog 38 #[v, .int .i64 0] w fun e w' => e = .returned (.int .u8 x) ∧ Fr Nil w w' := by
  rcases hv with ⟨_, h0⟩ | ⟨g, o, cap, rfl, hc, ha, hr⟩
  · cases h0
  · have c0 := hr.at EB_ok (i := 0) (p := x) rfl (j := 0) (u := .int .u8 x) rfl
    simp only [EB, Nat.zero_mul, Nat.add_zero] at c0
    have hl : (0 : Int) < ((x :: b).length : Nat) := by rw [List.length_cons]; omega
    generalize (x :: b).length = n at *
    clear hr
    go_enter Try.func38, Try.ntmps38
    go_wp2_with fail
    go_ret
    exact ⟨rfl, Fr.refl _ _⟩
theorem index_bad (v : Value) (hv : Sl EB w v []) :
    Calls Try.prog 38 #[v, .int .i64 0] w fun e w' => e = .panicked [fault 0 1] ∧ Fr Nil w w' := by
  obtain ⟨A, c, rfl⟩ := hv.shape
  have K := Lib.hid (fun W => throw_bad 0 1 (by decide) W)
  simp only [List.length_nil]
  clear hv
  go_enter Try.func38, Try.ntmps38
  go_wp2_with fail
  refine (K.out _).mono ?_
  rintro e w1 ⟨rfl, rfl⟩
  exact ⟨rfl, rfl, Fr.refl _ _⟩

theorem byte_ok {D g : Nat} {x : Int} {b : List Int} (hb : b.length ≤ 100000) (h : Rd D w g (x :: b)) :
    Calls Try.prog 29 #[.pointer (some ⟨g, 0, none⟩)] w fun e w' => e = .returned (.int .u8 x) ∧ Fr (fun k => k = g) w w' ∧ Rd D w' g b := by
  obtain ⟨s, hB, hs, hne⟩ := h
  have KI := Lib.hid (index_ok w x b s hs)
  rcases hs with ⟨_, h0⟩ | ⟨g2, o, cap, rfl, hc, ha, hr⟩
  · cases h0
  have HT := Lib.hid (tail_sl 1 hc (by simp) ha hr)
  have hg2 : g2 ≠ g := (hne g2 rfl).1
  have hgD : g2 < D := (hne g2 rfl).2
  have HB := Lib.hid hB
  obtain ⟨c0, f0⟩ := hB.c1
  have hl1 : (1 : Int) ≤ ((x :: b).length : Nat) := by rw [List.length_cons]; omega
  have hl2 : ((x :: b).length : Nat) - 1 = b.length := by simp
  have hc1 : (1 : Int) ≤ cap := by omega
  have HL2 := Lib.hid hl2
  have hg : g < w.heap.size := hB.lt
  simp only [List.drop_succ_cons, List.drop_zero] at HT
  generalize (x :: b).length = n at *
  clear hr hB hne hc hl2
  by_cases hcap : cap = 1
  · subst hcap
    rw [if_pos rfl] at HT
    go_enter Try.func29, Try.ntmps29
    go_wp2_with fail
    refine KI.out.mono ?_
    rintro e w1 ⟨rfl, hf⟩
    have HF := Lib.hid hf
    have HB1 := Lib.hid (HB.out.fr hf id)
    obtain ⟨c0, f0⟩ := HB1.out.c1
    clear hf
    go_wp2_with fail
    go_ret
    exact ⟨rfl, Fr.setCell (S := fun k => k = g) (p := ⟨g, 0, none⟩) HF.out.of_nil (fun _ => rfl) _, _, HB1.out.put 0 _, (HT.out.fr HF.out).frS (S := fun k => k = g) (Fr.setCell (S := fun k => k = g) (p := ⟨g, 0, none⟩) (Fr.refl (fun k => k = g) w1) (fun _ => rfl) _) (fun k hk hs => hg2 (by simp [Value.ownBlock] at hk; omega)), fun k hk => by simp [Value.ownBlock] at hk; subst hk; exact ⟨hg2, hgD⟩⟩
  · rw [if_neg hcap] at HT
    go_enter Try.func29, Try.ntmps29
    go_wp2_with fail
    refine KI.out.mono ?_
    rintro e w1 ⟨rfl, hf⟩
    have HF := Lib.hid hf
    have HB1 := Lib.hid (HB.out.fr hf id)
    obtain ⟨c0, f0⟩ := HB1.out.c1
    clear hf
    go_wp2_with fail
    go_ret
    exact ⟨rfl, Fr.setCell (S := fun k => k = g) (p := ⟨g, 0, none⟩) HF.out.of_nil (fun _ => rfl) _, _, HB1.out.put 0 _, (HT.out.fr HF.out).frS (S := fun k => k = g) (Fr.setCell (S := fun k => k = g) (p := ⟨g, 0, none⟩) (Fr.refl (fun k => k = g) w1) (fun _ => rfl) _) (fun k hk hs => hg2 (by simp [Value.ownBlock] at hk; omega)), fun k hk => by simp [Value.ownBlock] at hk; subst hk; exact ⟨hg2, hgD⟩⟩

theorem byte_bad {D g : Nat} (h : Rd D w g []) :
    Calls Try.prog 29 #[.pointer (some ⟨g, 0, none⟩)] w fun e w' => e = .panicked [fault 0 1] ∧ Fr Nil w w' := by
  obtain ⟨s, hB, hs, hne⟩ := h
  have KI := Lib.hid (index_bad w s hs)
  obtain ⟨A, c, rfl⟩ := hs.shape
  obtain ⟨c0, f0⟩ := hB.c1
  clear hs hB hne
  go_enter Try.func29, Try.ntmps29
  go_wp2_with fail
  refine KI.out.mono ?_
  rintro e w1 ⟨rfl, hf⟩
  exact ⟨rfl, rfl, hf⟩

theorem int_bad {D g : Nat} {b : List Int} (hl : b.length ≤ 100000) (hb : Bytes b) (h : Rd D w g b) (hn : next b = none) :
    Calls Try.prog 30 #[.pointer (some ⟨g, 0, none⟩)] w fun e w' => e = .panicked [fault 0 8] ∧ Fr Nil w w' := by
  obtain ⟨s, hB, hs, hne⟩ := h
  have KR := Lib.hid ((Read_any w b s hl hb hs).mono fun e w' h => (show e = .returned (.tuple #[.int .i64 0, .int .i64 0]) ∧ Fr Nil w w' by
    obtain ⟨hr, hf⟩ := h
    rcases hr with ⟨z, hz, _⟩ | ⟨_, he⟩
    · rw [next_some hz] at hn; cases hn
    · exact ⟨he, hf⟩))
  have KT := Lib.hid (fun W => Throw_bad 0 8 (by decide) W)
  obtain ⟨A, c, rfl⟩ := hs.shape
  obtain ⟨c0, f0⟩ := hB.c1
  clear hs hB hne hn
  go_enter Try.func30, Try.ntmps30
  go_wp2_with fail
  refine KR.out.mono ?_
  rintro e w1 ⟨rfl, hf⟩
  have HF := Lib.hid hf
  clear hf
  go_wp2_with fail
  refine (KT.out _).mono ?_
  rintro e w2 ⟨rfl, rfl⟩
  exact ⟨rfl, rfl, HF.out⟩

theorem int_ok {D g : Nat} {b : List Int} {z : Nat} (hl : b.length ≤ 100000) (hb : Bytes b) (h : Rd D w g b) (hn : next b = some z) :
    Calls Try.prog 30 #[.pointer (some ⟨g, 0, none⟩)] w fun e w' => e = .returned (.int .i64 (unfold_ z)) ∧ Fr (fun k => k = g) w w' ∧ Rd D w' g (b.drop (vint z).length) := by
  obtain ⟨s, hB, hs, hne⟩ := h
  have hzl := next_len hn
  have hzp := vint_len_pos z
  have KR := Lib.hid ((Read_any w b s hl hb hs).mono fun e w' h => (show e = .returned (.tuple #[.int .i64 (unfold_ z), .int .i64 ((vint z).length : Nat)]) ∧ Fr Nil w w' by
    obtain ⟨hr, hf⟩ := h
    rcases hr with ⟨z', hz, he⟩ | ⟨hno, _⟩
    · rw [next_some hz] at hn
      cases hn
      exact ⟨he, hf⟩
    · exact absurd (next_of hn) (hno z)))
  rcases hs with ⟨_, h0⟩ | ⟨g2, o, cap, rfl, hc, ha, hr⟩
  · subst h0; rw [List.length_nil] at hzl; omega
  have HT := Lib.hid (tail_sl (vint z).length hc hzl ha hr)
  have hg2 : g2 ≠ g := (hne g2 rfl).1
  have hgD : g2 < D := (hne g2 rfl).2
  have HB := Lib.hid hB
  obtain ⟨c0, f0⟩ := hB.c1
  generalize (vint z).length = k at *
  generalize unfold_ z = n at *
  have hk0 : (0 : Int) ≤ k := Int.natCast_nonneg k
  have hk1 : (k : Int) ≤ b.length := by omega
  have hk2 : (k : Int) ≤ cap := by omega
  have hk3 : ¬ (k : Int) = 0 := by omega
  have hk4 : ((k : Int) == 0) = false := by simpa using (show ¬ k = 0 by omega)
  have hg : g < w.heap.size := hB.lt
  clear hr hB hne hc hn hzl hzp
  by_cases hcap : cap = k
  · subst hcap
    rw [if_pos rfl, Nat.sub_self] at HT
    go_enter Try.func30, Try.ntmps30
    go_wp2_with fail
    refine KR.out.mono ?_
    rintro e w1 ⟨rfl, hf⟩
    have HF := Lib.hid hf
    have HB1 := Lib.hid (HB.out.fr hf id)
    obtain ⟨c0, f0⟩ := HB1.out.c1
    clear hf
    go_wp2_with fail
    go_ret
    exact ⟨rfl, Fr.setCell (S := fun k => k = g) (p := ⟨g, 0, none⟩) HF.out.of_nil (fun _ => rfl) _, _, HB1.out.put 0 _, (HT.out.fr HF.out).frS (S := fun k => k = g) (Fr.setCell (S := fun k => k = g) (p := ⟨g, 0, none⟩) (Fr.refl (fun k => k = g) w1) (fun _ => rfl) _) (fun k hk hs => hg2 (by simp [Value.ownBlock] at hk; omega)), fun k hk => by simp [Value.ownBlock] at hk; subst hk; exact ⟨hg2, hgD⟩⟩
  · rw [if_neg hcap] at HT
    go_enter Try.func30, Try.ntmps30
    go_wp2_with fail
    refine KR.out.mono ?_
    rintro e w1 ⟨rfl, hf⟩
    have HF := Lib.hid hf
    have HB1 := Lib.hid (HB.out.fr hf id)
    obtain ⟨c0, f0⟩ := HB1.out.c1
    clear hf
    go_wp2_with fail
    go_ret
    exact ⟨rfl, Fr.setCell (S := fun k => k = g) (p := ⟨g, 0, none⟩) HF.out.of_nil (fun _ => rfl) _, _, HB1.out.put 0 _, (HT.out.fr HF.out).frS (S := fun k => k = g) (Fr.setCell (S := fun k => k = g) (p := ⟨g, 0, none⟩) (Fr.refl (fun k => k = g) w1) (fun _ => rfl) _) (fun k hk hs => hg2 (by simp [Value.ownBlock] at hk; omega)), fun k hk => by simp [Value.ownBlock] at hk; subst hk; exact ⟨hg2, hgD⟩⟩
end
end Go.Proofs.Ytfkjonpbopoiaaa.ReplyI
