/- Chapter 5: the walk of First over three doers. -/
import Derived.Test.YtendhgnhncnabaaFiveF
namespace Go.Proofs.Ytendhgnhncnabaa.FiveL
open Go.RowKit TrapA TrapB Base FiveA FiveB FiveC FiveD FiveE FiveF
set_option linter.unusedVariables false
set_option linter.unusedSimpArgs false

theorem thrown_code {s : St} {x c : Int} (h : thrown s = some (x, c)) : c ≠ 0 := by
  unfold thrown at h
  split at h
  · rename_i h1
    simp only [Option.some.injEq, Prod.mk.injEq] at h
    rw [← h.2]
    exact h1.2
  · split at h
    · simp only [Option.some.injEq, Prod.mk.injEq] at h
      omega
    · split at h
      · simp only [Option.some.injEq, Prod.mk.injEq] at h
        omega
      · cases h

theorem scan_code {l : List St} {x c : Int} (h : (scan l).1 = some (x, c)) : c ≠ 0 := by
  obtain ⟨s, _, hs, _⟩ := scan_some h
  exact thrown_code hs

/-- Three doers in memory, apart from one another. -/
structure Three (g0 g1 g2 : Nat) (a0 a1 a2 : Addr) (p0 p1 p2 : Nat) (l0 l1 l2 : List St) (w : World) (d0 d1 d2 : Int) : Prop where
  h0 : Doer w g0 a0 p0 l0 d0 0
  h1 : Doer w g1 a1 p1 l1 d1 0
  h2 : Doer w g2 a2 p2 l2 d2 0
  ne : g0 ≠ g1 ∧ g0 ≠ g2 ∧ g1 ≠ g2 ∧ a0.block ≠ g1 ∧ a0.block ≠ g2 ∧ a1.block ≠ g0 ∧ a1.block ≠ g2 ∧ a2.block ≠ g0 ∧ a2.block ≠ g1

section
variable {g0 g1 g2 : Nat} {a0 a1 a2 : Addr} {p0 p1 p2 : Nat} {l0 l1 l2 : List St} {w w' : World} {d0 d1 d2 d : Int}

theorem Three.fr (h : Three g0 g1 g2 a0 a1 a2 p0 p1 p2 l0 l1 l2 w d0 d1 d2) (hf : Fr Nil w w') : Three g0 g1 g2 a0 a1 a2 p0 p1 p2 l0 l1 l2 w' d0 d1 d2 :=
  ⟨h.h0.fr hf id id, h.h1.fr hf id id, h.h2.fr hf id id, h.ne⟩
theorem Three.put0 (h : Three g0 g1 g2 a0 a1 a2 p0 p1 p2 l0 l1 l2 w d0 d1 d2) (hf : Fr (· = g0) w w') (hd : Doer w' g0 a0 p0 l0 d 0) : Three g0 g1 g2 a0 a1 a2 p0 p1 p2 l0 l1 l2 w' d d1 d2 :=
  ⟨hd, h.h1.fr hf (Ne.symm h.ne.1) h.ne.2.2.2.2.2.1, h.h2.fr hf (Ne.symm h.ne.2.1) h.ne.2.2.2.2.2.2.2.1, h.ne⟩
theorem Three.put1 (h : Three g0 g1 g2 a0 a1 a2 p0 p1 p2 l0 l1 l2 w d0 d1 d2) (hf : Fr (· = g1) w w') (hd : Doer w' g1 a1 p1 l1 d 0) : Three g0 g1 g2 a0 a1 a2 p0 p1 p2 l0 l1 l2 w' d0 d d2 :=
  ⟨h.h0.fr hf h.ne.1 h.ne.2.2.2.1, hd, h.h2.fr hf (Ne.symm h.ne.2.2.1) h.ne.2.2.2.2.2.2.2.2, h.ne⟩
theorem Three.put2 (h : Three g0 g1 g2 a0 a1 a2 p0 p1 p2 l0 l1 l2 w d0 d1 d2) (hf : Fr (· = g2) w w') (hd : Doer w' g2 a2 p2 l2 d 0) : Three g0 g1 g2 a0 a1 a2 p0 p1 p2 l0 l1 l2 w' d0 d1 d :=
  ⟨h.h0.fr hf h.ne.2.1 h.ne.2.2.2.2.1, h.h1.fr hf h.ne.2.2.1 h.ne.2.2.2.2.2.2.1, hd, h.ne⟩

/-- a doer's method value -/
def fn (g : Nat) : Value := .func (.func 17) #[.pointer (some ⟨g, 0, none⟩)] #[]

def S3 (g0 g1 g2 : Nat) : Nat → Prop := fun k => k = g0 ∨ k = g1 ∨ k = g2

set_option maxHeartbeats 400000 in
theorem first_0 (b : Nat) (x c : Int) (hb : Bk w b 42 #[fn g0, fn g1, fn g2]) (h : Three g0 g1 g2 a0 a1 a2 p0 p1 p2 l0 l1 l2 w 0 0 0) (hs0 : (scan l0).1 = some (x, c)) :
    Calls Try.prog 19 #[.slice (some ⟨b, 0, none⟩) 3 3] w fun e w' => e = .returned (.tuple #[.int .i64 0, .int .i64 c]) ∧ Fr (S3 g0 g1 g2) w w' ∧ Three g0 g1 g2 a0 a1 a2 p0 p1 p2 l0 l1 l2 w' (scan l0).2 0 0 := by
  have hbg0 := hb.apart h.h0.bk (by decide)
  have hbg1 := hb.apart h.h1.bk (by decide)
  have hbg2 := hb.apart h.h2.bk (by decide)
  obtain ⟨c0, c1, c2, _, _, _⟩ := hb.c3
  unfold fn at c0 c1 c2
  have hc : (c != 0) = true := by have := scan_code hs0; simpa using this
  have HS0 := Lib.hid hs0
  clear hs0
  have HT0 := Lib.hid h
  have HB0 := Lib.hid hb
  have HFR0 := Lib.hid (Fr.refl (S3 g0 g1 g2) w)
  clear h hb
  go_enter Try.func19, Try.ntmps19
  go_wp2_with fail
  refine wp_loop_rounds 1 ?_
  have HC0 := code_coded HT0.out.h0 (by omega) (by omega)
  rw [HS0.out, Int.zero_add] at HC0
  simp only [Option.map_some, Option.getD_some] at HC0
  have HH0 := Lib.hid HC0
  clear HC0
  rw [rounds_succ]
  go_wp2_with fail
  refine HH0.out.mono ?_
  rintro e w1 ⟨rfl, hf1, hd1⟩
  have HT1 := Lib.hid (HT0.out.put0 hf1 hd1)
  have HB1 := Lib.hid (HB0.out.fr hf1 hbg0)
  have HFR1 := Lib.hid (HFR0.out.trans (hf1.mono (S := S3 g0 g1 g2) fun i hi _ => Or.inl hi))
  obtain ⟨e10, e11, e12, _, _, _⟩ := HB1.out.c3
  unfold fn at e10 e11 e12
  clear HH0 hf1 hd1
  go_wp2_with fail
  go_ret2
  exact ⟨rfl, HFR1.out, HT1.out⟩

set_option maxHeartbeats 400000 in
theorem first_1 (b : Nat) (x c : Int) (hb : Bk w b 42 #[fn g0, fn g1, fn g2]) (h : Three g0 g1 g2 a0 a1 a2 p0 p1 p2 l0 l1 l2 w 0 0 0) (hs0 : (scan l0).1 = none) (hs1 : (scan l1).1 = some (x, c)) :
    Calls Try.prog 19 #[.slice (some ⟨b, 0, none⟩) 3 3] w fun e w' => e = .returned (.tuple #[.int .i64 1, .int .i64 c]) ∧ Fr (S3 g0 g1 g2) w w' ∧ Three g0 g1 g2 a0 a1 a2 p0 p1 p2 l0 l1 l2 w' (scan l0).2 (scan l1).2 0 := by
  have hbg0 := hb.apart h.h0.bk (by decide)
  have hbg1 := hb.apart h.h1.bk (by decide)
  have hbg2 := hb.apart h.h2.bk (by decide)
  obtain ⟨c0, c1, c2, _, _, _⟩ := hb.c3
  unfold fn at c0 c1 c2
  have hc : (c != 0) = true := by have := scan_code hs1; simpa using this
  have HS0 := Lib.hid hs0
  clear hs0
  have HS1 := Lib.hid hs1
  clear hs1
  have HT0 := Lib.hid h
  have HB0 := Lib.hid hb
  have HFR0 := Lib.hid (Fr.refl (S3 g0 g1 g2) w)
  clear h hb
  go_enter Try.func19, Try.ntmps19
  go_wp2_with fail
  refine wp_loop_rounds 2 ?_
  have HC0 := code_coded HT0.out.h0 (by omega) (by omega)
  rw [HS0.out, Int.zero_add] at HC0
  simp only [Option.map_none, Option.getD_none] at HC0
  have HH0 := Lib.hid HC0
  clear HC0
  rw [rounds_succ]
  go_wp2_with fail
  refine HH0.out.mono ?_
  rintro e w1 ⟨rfl, hf1, hd1⟩
  have HT1 := Lib.hid (HT0.out.put0 hf1 hd1)
  have HB1 := Lib.hid (HB0.out.fr hf1 hbg0)
  have HFR1 := Lib.hid (HFR0.out.trans (hf1.mono (S := S3 g0 g1 g2) fun i hi _ => Or.inl hi))
  obtain ⟨e10, e11, e12, _, _, _⟩ := HB1.out.c3
  unfold fn at e10 e11 e12
  clear HH0 hf1 hd1
  go_wp2_with fail
  have HC1 := code_coded HT1.out.h1 (by omega) (by omega)
  rw [HS1.out, Int.zero_add] at HC1
  simp only [Option.map_some, Option.getD_some] at HC1
  have HH1 := Lib.hid HC1
  clear HC1
  rw [rounds_succ]
  go_wp2_with fail
  refine HH1.out.mono ?_
  rintro e w2 ⟨rfl, hf2, hd2⟩
  have HT2 := Lib.hid (HT1.out.put1 hf2 hd2)
  have HB2 := Lib.hid (HB1.out.fr hf2 hbg1)
  have HFR2 := Lib.hid (HFR1.out.trans (hf2.mono (S := S3 g0 g1 g2) fun i hi _ => Or.inr (Or.inl hi)))
  obtain ⟨e20, e21, e22, _, _, _⟩ := HB2.out.c3
  unfold fn at e20 e21 e22
  clear HH1 hf2 hd2
  go_wp2_with fail
  go_ret2
  exact ⟨rfl, HFR2.out, HT2.out⟩

set_option maxHeartbeats 400000 in
theorem first_2 (b : Nat) (x c : Int) (hb : Bk w b 42 #[fn g0, fn g1, fn g2]) (h : Three g0 g1 g2 a0 a1 a2 p0 p1 p2 l0 l1 l2 w 0 0 0) (hs0 : (scan l0).1 = none) (hs1 : (scan l1).1 = none) (hs2 : (scan l2).1 = some (x, c)) :
    Calls Try.prog 19 #[.slice (some ⟨b, 0, none⟩) 3 3] w fun e w' => e = .returned (.tuple #[.int .i64 2, .int .i64 c]) ∧ Fr (S3 g0 g1 g2) w w' ∧ Three g0 g1 g2 a0 a1 a2 p0 p1 p2 l0 l1 l2 w' (scan l0).2 (scan l1).2 (scan l2).2 := by
  have hbg0 := hb.apart h.h0.bk (by decide)
  have hbg1 := hb.apart h.h1.bk (by decide)
  have hbg2 := hb.apart h.h2.bk (by decide)
  obtain ⟨c0, c1, c2, _, _, _⟩ := hb.c3
  unfold fn at c0 c1 c2
  have hc : (c != 0) = true := by have := scan_code hs2; simpa using this
  have HS0 := Lib.hid hs0
  clear hs0
  have HS1 := Lib.hid hs1
  clear hs1
  have HS2 := Lib.hid hs2
  clear hs2
  have HT0 := Lib.hid h
  have HB0 := Lib.hid hb
  have HFR0 := Lib.hid (Fr.refl (S3 g0 g1 g2) w)
  clear h hb
  go_enter Try.func19, Try.ntmps19
  go_wp2_with fail
  refine wp_loop_rounds 3 ?_
  have HC0 := code_coded HT0.out.h0 (by omega) (by omega)
  rw [HS0.out, Int.zero_add] at HC0
  simp only [Option.map_none, Option.getD_none] at HC0
  have HH0 := Lib.hid HC0
  clear HC0
  rw [rounds_succ]
  go_wp2_with fail
  refine HH0.out.mono ?_
  rintro e w1 ⟨rfl, hf1, hd1⟩
  have HT1 := Lib.hid (HT0.out.put0 hf1 hd1)
  have HB1 := Lib.hid (HB0.out.fr hf1 hbg0)
  have HFR1 := Lib.hid (HFR0.out.trans (hf1.mono (S := S3 g0 g1 g2) fun i hi _ => Or.inl hi))
  obtain ⟨e10, e11, e12, _, _, _⟩ := HB1.out.c3
  unfold fn at e10 e11 e12
  clear HH0 hf1 hd1
  go_wp2_with fail
  have HC1 := code_coded HT1.out.h1 (by omega) (by omega)
  rw [HS1.out, Int.zero_add] at HC1
  simp only [Option.map_none, Option.getD_none] at HC1
  have HH1 := Lib.hid HC1
  clear HC1
  rw [rounds_succ]
  go_wp2_with fail
  refine HH1.out.mono ?_
  rintro e w2 ⟨rfl, hf2, hd2⟩
  have HT2 := Lib.hid (HT1.out.put1 hf2 hd2)
  have HB2 := Lib.hid (HB1.out.fr hf2 hbg1)
  have HFR2 := Lib.hid (HFR1.out.trans (hf2.mono (S := S3 g0 g1 g2) fun i hi _ => Or.inr (Or.inl hi)))
  obtain ⟨e20, e21, e22, _, _, _⟩ := HB2.out.c3
  unfold fn at e20 e21 e22
  clear HH1 hf2 hd2
  go_wp2_with fail
  have HC2 := code_coded HT2.out.h2 (by omega) (by omega)
  rw [HS2.out, Int.zero_add] at HC2
  simp only [Option.map_some, Option.getD_some] at HC2
  have HH2 := Lib.hid HC2
  clear HC2
  rw [rounds_succ]
  go_wp2_with fail
  refine HH2.out.mono ?_
  rintro e w3 ⟨rfl, hf3, hd3⟩
  have HT3 := Lib.hid (HT2.out.put2 hf3 hd3)
  have HB3 := Lib.hid (HB2.out.fr hf3 hbg2)
  have HFR3 := Lib.hid (HFR2.out.trans (hf3.mono (S := S3 g0 g1 g2) fun i hi _ => Or.inr (Or.inr hi)))
  obtain ⟨e30, e31, e32, _, _, _⟩ := HB3.out.c3
  unfold fn at e30 e31 e32
  clear HH2 hf3 hd3
  go_wp2_with fail
  go_ret2
  exact ⟨rfl, HFR3.out, HT3.out⟩

set_option maxHeartbeats 400000 in
theorem first_3 (b : Nat) (hb : Bk w b 42 #[fn g0, fn g1, fn g2]) (h : Three g0 g1 g2 a0 a1 a2 p0 p1 p2 l0 l1 l2 w 0 0 0) (hs0 : (scan l0).1 = none) (hs1 : (scan l1).1 = none) (hs2 : (scan l2).1 = none) :
    Calls Try.prog 19 #[.slice (some ⟨b, 0, none⟩) 3 3] w fun e w' => e = .returned (.tuple #[.int .i64 3, .int .i64 0]) ∧ Fr (S3 g0 g1 g2) w w' ∧ Three g0 g1 g2 a0 a1 a2 p0 p1 p2 l0 l1 l2 w' (scan l0).2 (scan l1).2 (scan l2).2 := by
  have hbg0 := hb.apart h.h0.bk (by decide)
  have hbg1 := hb.apart h.h1.bk (by decide)
  have hbg2 := hb.apart h.h2.bk (by decide)
  obtain ⟨c0, c1, c2, _, _, _⟩ := hb.c3
  unfold fn at c0 c1 c2
  have HS0 := Lib.hid hs0
  clear hs0
  have HS1 := Lib.hid hs1
  clear hs1
  have HS2 := Lib.hid hs2
  clear hs2
  have HT0 := Lib.hid h
  have HB0 := Lib.hid hb
  have HFR0 := Lib.hid (Fr.refl (S3 g0 g1 g2) w)
  clear h hb
  go_enter Try.func19, Try.ntmps19
  go_wp2_with fail
  refine wp_loop_rounds 4 ?_
  have HC0 := code_coded HT0.out.h0 (by omega) (by omega)
  rw [HS0.out, Int.zero_add] at HC0
  simp only [Option.map_none, Option.getD_none] at HC0
  have HH0 := Lib.hid HC0
  clear HC0
  rw [rounds_succ]
  go_wp2_with fail
  refine HH0.out.mono ?_
  rintro e w1 ⟨rfl, hf1, hd1⟩
  have HT1 := Lib.hid (HT0.out.put0 hf1 hd1)
  have HB1 := Lib.hid (HB0.out.fr hf1 hbg0)
  have HFR1 := Lib.hid (HFR0.out.trans (hf1.mono (S := S3 g0 g1 g2) fun i hi _ => Or.inl hi))
  obtain ⟨e10, e11, e12, _, _, _⟩ := HB1.out.c3
  unfold fn at e10 e11 e12
  clear HH0 hf1 hd1
  go_wp2_with fail
  have HC1 := code_coded HT1.out.h1 (by omega) (by omega)
  rw [HS1.out, Int.zero_add] at HC1
  simp only [Option.map_none, Option.getD_none] at HC1
  have HH1 := Lib.hid HC1
  clear HC1
  rw [rounds_succ]
  go_wp2_with fail
  refine HH1.out.mono ?_
  rintro e w2 ⟨rfl, hf2, hd2⟩
  have HT2 := Lib.hid (HT1.out.put1 hf2 hd2)
  have HB2 := Lib.hid (HB1.out.fr hf2 hbg1)
  have HFR2 := Lib.hid (HFR1.out.trans (hf2.mono (S := S3 g0 g1 g2) fun i hi _ => Or.inr (Or.inl hi)))
  obtain ⟨e20, e21, e22, _, _, _⟩ := HB2.out.c3
  unfold fn at e20 e21 e22
  clear HH1 hf2 hd2
  go_wp2_with fail
  have HC2 := code_coded HT2.out.h2 (by omega) (by omega)
  rw [HS2.out, Int.zero_add] at HC2
  simp only [Option.map_none, Option.getD_none] at HC2
  have HH2 := Lib.hid HC2
  clear HC2
  rw [rounds_succ]
  go_wp2_with fail
  refine HH2.out.mono ?_
  rintro e w3 ⟨rfl, hf3, hd3⟩
  have HT3 := Lib.hid (HT2.out.put2 hf3 hd3)
  have HB3 := Lib.hid (HB2.out.fr hf3 hbg2)
  have HFR3 := Lib.hid (HFR2.out.trans (hf3.mono (S := S3 g0 g1 g2) fun i hi _ => Or.inr (Or.inr hi)))
  obtain ⟨e30, e31, e32, _, _, _⟩ := HB3.out.c3
  unfold fn at e30 e31 e32
  clear HH2 hf3 hd3
  go_wp2_with fail
  rw [rounds_succ]
  go_wp2_with fail
  go_ret2
  exact ⟨rfl, HFR3.out, HT3.out⟩

/-- What First answers of three doers, and what each has done behind it. -/
def FirstRes (l0 l1 l2 : List St) (i c n0 n1 n2 : Int) : Prop :=
  (∃ x, (scan l0).1 = some (x, c) ∧ i = 0 ∧ n0 = (scan l0).2 ∧ n1 = 0 ∧ n2 = 0) ∨
  (∃ x, (scan l0).1 = none ∧ (scan l1).1 = some (x, c) ∧ i = 1 ∧ n0 = (scan l0).2 ∧ n1 = (scan l1).2 ∧ n2 = 0) ∨
  (∃ x, (scan l0).1 = none ∧ (scan l1).1 = none ∧ (scan l2).1 = some (x, c) ∧ i = 2 ∧ n0 = (scan l0).2 ∧ n1 = (scan l1).2 ∧ n2 = (scan l2).2) ∨
  ((scan l0).1 = none ∧ (scan l1).1 = none ∧ (scan l2).1 = none ∧ i = 3 ∧ c = 0 ∧ n0 = (scan l0).2 ∧ n1 = (scan l1).2 ∧ n2 = (scan l2).2)

theorem first_any (b : Nat) (hb : Bk w b 42 #[fn g0, fn g1, fn g2]) (h : Three g0 g1 g2 a0 a1 a2 p0 p1 p2 l0 l1 l2 w 0 0 0) :
    Calls Try.prog 19 #[.slice (some ⟨b, 0, none⟩) 3 3] w fun e w' => ∃ i c n0 n1 n2 : Int, e = .returned (.tuple #[.int .i64 i, .int .i64 c]) ∧ FirstRes l0 l1 l2 i c n0 n1 n2 ∧ Fr (S3 g0 g1 g2) w w' ∧ Three g0 g1 g2 a0 a1 a2 p0 p1 p2 l0 l1 l2 w' n0 n1 n2 := by
  rcases h0 : (scan l0).1 with _ | ⟨x, c⟩
  · rcases h1 : (scan l1).1 with _ | ⟨x, c⟩
    · rcases h2 : (scan l2).1 with _ | ⟨x, c⟩
      · exact (first_3 b hb h h0 h1 h2).mono fun e w' ⟨he, hf, hT⟩ => ⟨3, 0, _, _, _, he, Or.inr (Or.inr (Or.inr ⟨h0, h1, h2, rfl, rfl, rfl, rfl, rfl⟩)), hf, hT⟩
      · exact (first_2 b x c hb h h0 h1 h2).mono fun e w' ⟨he, hf, hT⟩ => ⟨2, c, _, _, _, he, Or.inr (Or.inr (Or.inl ⟨x, h0, h1, h2, rfl, rfl, rfl, rfl⟩)), hf, hT⟩
    · exact (first_1 b x c hb h h0 h1).mono fun e w' ⟨he, hf, hT⟩ => ⟨1, c, _, _, _, he, Or.inr (Or.inl ⟨x, h0, h1, rfl, rfl, rfl, rfl⟩), hf, hT⟩
  · exact (first_0 b x c hb h h0).mono fun e w' ⟨he, hf, hT⟩ => ⟨0, c, _, _, _, he, Or.inl ⟨x, h0, rfl, rfl, rfl, rfl⟩, hf, hT⟩
end
end Go.Proofs.Ytendhgnhncnabaa.FiveL
