/- Chapter 30: the walks of rising, good, the reference's Good and Same. -/
import Derived.Test.YtfkjonpbopoiaaaReplyA
namespace Go.Proofs.Ytfkjonpbopoiaaa.ReplyB
open Go.RowKit Base Slices VintA VintB Quiet ReplyA
set_option linter.unusedVariables false
set_option linter.unusedSimpArgs false

def oddV : Value := .func (.func 31) #[] #[]
section
variable (w : World)
theorem index_any (l : List Int) (v : Value) (hl : l.length ≤ 100000) (hv : Sl EI w v l) :
    Calls Try.prog 42 #[v, oddV] w fun e w' => (∃ i : Int, e = .returned (.int .i64 i) ∧ (0 ≤ i ↔ ∃ n ∈ l, Odd n)) ∧ Fr Nil w w' := by
  unfold oddV
  rcases hv with ⟨rfl, rfl⟩ | ⟨g, o, cap, rfl, hc, ha, hr⟩
  · go_enter Try.func42, Try.ntmps42
    go_wp2_with fail
    refine wp_loop_rounds 1 ?_
    rw [rounds_succ]
    go_wp2
    go_ret
    exact ⟨⟨-1, rfl, by simp⟩, Fr.refl _ _⟩
  · have KO := Lib.hid (fun W n => odd_any W n)
    have HR := Lib.hid hr
    clear hr
    go_enter Try.func42, Try.ntmps42
    go_wp2_with fail
    go_loopw [8] (fun i wr => ∃ j : Nat, i = .int .i64 j ∧ j ≤ l.length ∧ (∀ n ∈ l.take j, ¬ Odd n) ∧ Fr Nil w wr) (fun i _ => l.length - (intOf i).toNat)
    case atStart => exact ⟨0, rfl, by omega, by simp, Fr.refl _ _⟩
    case round =>
      obtain ⟨j, rfl, hj, hs, hf⟩ := hrel
      have HF := Lib.hid hf
      have HS := Lib.hid hs
      clear hs hf
      by_cases hlt : j < l.length
      · obtain ⟨x, hx⟩ : ∃ x, l[j]? = some x := ⟨l[j], List.getElem?_eq_getElem hlt⟩
        have HX := Lib.hid hx
        have c0 := row_at (HR.out.fr HF.out ha id) hx
        have KX := Lib.hid (KO.out wr x)
        clear hx
        go_wp2_with fail
        refine KX.out.mono ?_
        rintro e w1 ⟨⟨b, rfl, hb⟩, hf1⟩
        have HF1 := Lib.hid (HF.out.trans hf1)
        have HB := Lib.hid hb
        clear hf1 hb
        cases b with
        | true =>
          go_wp2_with fail
          go_ret
          exact ⟨⟨j, rfl, ⟨fun _ => ⟨x, List.mem_of_getElem? HX.out, HB.out.1 (by trivial)⟩, fun _ => Int.natCast_nonneg _⟩⟩, HF1.out⟩
        | false =>
          go_wp2_with fail
          go_roundw
          case rel =>
            refine ⟨j + 1, by go_num, by omega, fun n hn => ?_, HF1.out⟩
            rw [List.take_add_one, HX.out] at hn
            rcases List.mem_append.1 hn with h | h
            · exact HS.out n h
            · simp at h
              subst h
              exact fun ho => by have := HB.out.2 ho; cases this
          case measure => simp [intOf]; omega
      · obtain rfl : j = l.length := by omega
        go_wp2_with fail
        go_ret
        refine ⟨⟨-1, rfl, ?_⟩, HF.out⟩
        have h := HS.out
        rw [List.take_length] at h
        exact ⟨fun h0 => absurd h0 (by decide), fun ⟨n, hn, ho⟩ => absurd ho (h n hn)⟩

theorem contains_any (l : List Int) (v : Value) (hl : l.length ≤ 100000) (hv : Sl EI w v l) :
    Calls Try.prog 33 #[v, oddV] w fun e w' => Tells (∃ n ∈ l, Odd n) e ∧ Fr Nil w w' := by
  have K := Lib.hid (index_any w l v hl hv)
  obtain ⟨A, c, rfl⟩ := (hv).shape
  unfold oddV at *
  clear hv
  go_enter Try.func33, Try.ntmps33
  go_wp2_with fail
  refine K.out.mono ?_
  rintro e w1 ⟨⟨i, rfl, hi⟩, hf1⟩
  have HI := Lib.hid hi
  have HF := Lib.hid hf1
  clear hi hf1
  go_wp2_with fail
  go_ret
  exact ⟨⟨decide (0 ≤ i), rfl, by rw [decide_eq_true_iff]; exact HI.out⟩, HF.out⟩

theorem rising_any (l : List Int) (v : Value) (hl : l.length ≤ 100000) (hv : Sl EI w v l) :
    Calls Try.prog 25 #[v] w fun e w' => Tells (Ris l) e ∧ Fr Nil w w' := by
  have K1 := Lib.hid (sorted_any w l v hl hv)
  have K2 := Lib.hid (fun W (h : Fr Nil w W) => contains_any W l v hl (hv.fr h))
  obtain ⟨A, c, rfl⟩ := (hv).shape
  unfold oddV at *
  clear hv
  go_enter Try.func25, Try.ntmps25
  go_wp2_with fail
  refine K1.out.mono ?_
  rintro e w1 ⟨⟨b, rfl, hb⟩, hf1⟩
  have HB := Lib.hid hb
  have HF := Lib.hid hf1
  clear hb hf1
  cases b with
  | false =>
    go_wp2_with fail
    go_ret
    exact ⟨Tells.no (fun h => by have := HB.out.2 h.1; cases this), HF.out⟩
  | true =>
    go_wp2_with fail
    refine (K2.out _ HF.out).mono ?_
    rintro e w2 ⟨⟨b, rfl, hb⟩, hf2⟩
    have HB2 := Lib.hid hb
    have HF2 := Lib.hid (HF.out.trans hf2)
    clear hb hf2
    cases b with
    | false =>
      go_wp2_with fail
      go_ret
      exact ⟨Tells.yes ⟨HB.out.1 (by trivial), fun n hn ho => by have := HB2.out.2 ⟨n, hn, ho⟩; cases this⟩, HF2.out⟩
    | true =>
      go_wp2_with fail
      go_ret
      exact ⟨Tells.no (fun h => by obtain ⟨n, hn, ho⟩ := HB2.out.1 (by trivial); exact h.2 n hn ho), HF2.out⟩

set_option maxHeartbeats 4000000 in
theorem good_any (r : Rp) (v : Value) (hl : r.ids.length ≤ 100000) (hv : Rv w v r) :
    Calls Try.prog 16 #[v] w fun e w' => Tells (GoodR r) e ∧ Fr Nil w w' := by
  obtain ⟨s, rfl, hs⟩ := hv
  have hB := Bk.new w 27 (rc r s)
  have G := Lib.hid ((Fr.refl Nil w).alloc (.cells (rc r s) 27))
  have KR := Lib.hid (fun W (h : Fr Nil w W) => rising_any W r.ids s hl (hs.fr h))
  obtain ⟨A, cp, rfl⟩ := hs.shape
  clear hs
  obtain ⟨c, a, l, n, ids⟩ := r
  unfold rv rc at *
  dsimp only at *
  obtain ⟨b0, b1, b2, b3, b4, _⟩ := hB.c5
  have HG := Lib.hid (show GoodR ⟨c, a, l, n, ids⟩ ↔ 0 ≤ c ∧ c ≤ 12 ∧ (l = true → a = true) ∧ (a = true → c = 0) ∧ 0 ≤ n ∧ n ≤ 1048576 ∧ (a = false → n = 0) ∧ (l = false → ids = []) ∧ (l = true → (ids.length : Int) = n) ∧ Ris ids from Iff.rfl)
  have HE := Lib.hid (show ids = [] ↔ ids.length = 0 from List.length_eq_zero_iff.symm)
  have HN := Lib.hid (show ids.length = 0 → Ris ids from fun h => by rw [List.length_eq_zero_iff.1 h]; exact ⟨by simp [Asc], by simp⟩)
  clear hB
  generalize hm : ids.length = m at *
  clear hm
  by_cases h1 : c < 0
  · go_enter Try.func16, Try.ntmps16
    go_wp2_with fail
    go_quiet (fail)
    go_wp2_with fail
    go_ret
    exact ⟨Tells.no (by rw [HG.out, HE.out]; intro h; obtain ⟨h1, h2, h3, h4, h5, h6, h7, h8, h9, _⟩ := h; simp_all; try omega), G.out.drewN _⟩
  · by_cases h2 : 12 < c
    · go_enter Try.func16, Try.ntmps16
      go_wp2_with fail
      go_quiet (fail)
      go_wp2_with fail
      go_ret
      exact ⟨Tells.no (by rw [HG.out, HE.out]; intro h; obtain ⟨h1, h2, h3, h4, h5, h6, h7, h8, h9, _⟩ := h; simp_all; try omega), G.out.drewN _⟩
    · by_cases h3 : n < 0
      · go_enter Try.func16, Try.ntmps16
        go_wp2_with fail
        go_quiet (fail)
        go_wp2_with fail
        go_ret
        exact ⟨Tells.no (by rw [HG.out, HE.out]; intro h; obtain ⟨h1, h2, h3, h4, h5, h6, h7, h8, h9, _⟩ := h; simp_all; try omega), G.out.drewN _⟩
      · by_cases h4 : 1048576 < n
        · go_enter Try.func16, Try.ntmps16
          go_wp2_with fail
          go_quiet (fail)
          go_wp2_with fail
          go_ret
          exact ⟨Tells.no (by rw [HG.out, HE.out]; intro h; obtain ⟨h1, h2, h3, h4, h5, h6, h7, h8, h9, _⟩ := h; simp_all; try omega), G.out.drewN _⟩
        · cases a with
          | false =>
            cases l with
            | true =>
              go_enter Try.func16, Try.ntmps16
              go_wp2_with fail
              go_quiet (fail)
              go_wp2_with fail
              go_ret
              exact ⟨Tells.no (by rw [HG.out, HE.out]; intro h; obtain ⟨h1, h2, h3, h4, h5, h6, h7, h8, h9, _⟩ := h; simp_all; try omega), G.out.drewN _⟩
            | false =>
              by_cases k1 : n = 0
              · subst k1
                by_cases k2 : m = 0
                · subst k2
                  go_enter Try.func16, Try.ntmps16
                  go_wp2_with fail
                  go_quiet (fail)
                  go_wp2_with fail
                  go_ret
                  exact ⟨Tells.yes (by rw [HG.out, HE.out]; have := HN.out; simp_all; try omega), G.out.drewN _⟩
                · have k3 : ((m : Int) == 0) = false := by simpa using k2
                  go_enter Try.func16, Try.ntmps16
                  go_wp2_with fail
                  go_quiet (fail)
                  go_wp2_with fail
                  go_ret
                  exact ⟨Tells.no (by rw [HG.out, HE.out]; intro h; obtain ⟨h1, h2, h3, h4, h5, h6, h7, h8, h9, _⟩ := h; simp_all; try omega), G.out.drewN _⟩
              · go_enter Try.func16, Try.ntmps16
                go_wp2_with fail
                go_quiet (fail)
                go_wp2_with fail
                go_ret
                exact ⟨Tells.no (by rw [HG.out, HE.out]; intro h; obtain ⟨h1, h2, h3, h4, h5, h6, h7, h8, h9, _⟩ := h; simp_all; try omega), G.out.drewN _⟩
          | true =>
            cases l with
            | false =>
              by_cases k1 : c = 0
              · subst k1
                by_cases k2 : m = 0
                · subst k2
                  go_enter Try.func16, Try.ntmps16
                  go_wp2_with fail
                  go_quiet (fail)
                  go_wp2_with fail
                  go_ret
                  exact ⟨Tells.yes (by rw [HG.out, HE.out]; have := HN.out; simp_all; try omega), G.out.drewN _⟩
                · have k3 : ((m : Int) == 0) = false := by simpa using k2
                  go_enter Try.func16, Try.ntmps16
                  go_wp2_with fail
                  go_quiet (fail)
                  go_wp2_with fail
                  go_ret
                  exact ⟨Tells.no (by rw [HG.out, HE.out]; intro h; obtain ⟨h1, h2, h3, h4, h5, h6, h7, h8, h9, _⟩ := h; simp_all; try omega), G.out.drewN _⟩
              · go_enter Try.func16, Try.ntmps16
                go_wp2_with fail
                go_quiet (fail)
                go_wp2_with fail
                go_ret
                exact ⟨Tells.no (by rw [HG.out, HE.out]; intro h; obtain ⟨h1, h2, h3, h4, h5, h6, h7, h8, h9, _⟩ := h; simp_all; try omega), G.out.drewN _⟩
            | true =>
              by_cases k1 : c = 0
              · subst k1
                by_cases k2 : (m : Int) = n
                · subst k2
                  go_enter Try.func16, Try.ntmps16
                  go_wp2_with fail
                  go_quiet (fail)
                  go_wp2_with fail
                  refine (KR.out _ (G.out.drewN _)).mono ?_
                  rintro e w1 ⟨⟨b, rfl, hb⟩, hf1⟩
                  have HB := Lib.hid hb
                  have HF := Lib.hid ((G.out.drewN _).trans hf1)
                  clear hb hf1
                  go_wp2_with fail
                  go_ret
                  exact ⟨⟨b, rfl, by rw [HG.out, HB.out]; simp_all; try omega⟩, HF.out⟩
                · go_enter Try.func16, Try.ntmps16
                  go_wp2_with fail
                  go_quiet (fail)
                  go_wp2_with fail
                  go_ret
                  exact ⟨Tells.no (by rw [HG.out, HE.out]; intro h; obtain ⟨h1, h2, h3, h4, h5, h6, h7, h8, h9, _⟩ := h; simp_all; try omega), G.out.drewN _⟩
              · go_enter Try.func16, Try.ntmps16
                go_wp2_with fail
                go_quiet (fail)
                go_wp2_with fail
                go_ret
                exact ⟨Tells.no (by rw [HG.out, HE.out]; intro h; obtain ⟨h1, h2, h3, h4, h5, h6, h7, h8, h9, _⟩ := h; simp_all; try omega), G.out.drewN _⟩
end
end Go.Proofs.Ytfkjonpbopoiaaa.ReplyB
