/- Chapter 30: the walks of the reference's Good and Same. -/
import Derived.Test.YtfkjonpbopoiaaaReplyB
namespace Go.Proofs.Ytfkjonpbopoiaaa.ReplyC
open Go.RowKit Base Slices VintA VintB Quiet ReplyA ReplyB
set_option linter.unusedVariables false
set_option linter.unusedSimpArgs false

/-- two lists, two replies, are one (words that the walk leaves alone) -/
def Eql (l m : List Int) : Prop := l = m
def Eqr (r s : Rp) : Prop := r = s
section
variable (w : World)
theorem lists_any (l m : List Int) (va vb : Value) (hl : l.length ≤ 100000) (hm : m.length ≤ 100000) (hva : Sl EI w va l) (hvb : Sl EI w vb m) :
    Calls Try.prog 19 #[va, vb] w fun e w' => Tells (Eql l m) e ∧ Fr Nil w w' := by
  obtain ⟨A, c, hA⟩ := hva.shape
  obtain ⟨B, d, hB⟩ := hvb.shape
  by_cases hlen : l.length = m.length
  · rcases hva with ⟨rfl, rfl⟩ | ⟨g, o, cap, rfl, hc, ha, hr⟩
    · obtain rfl : m = [] := List.length_eq_zero_iff.1 hlen.symm
      subst hB
      clear hA
      simp only [List.length_nil] at *
      clear hvb
      go_enter Try.func19, Try.ntmps19
      go_wp2_with fail
      refine wp_loop_rounds 1 ?_
      rw [rounds_succ]
      go_wp2
      go_ret
      exact ⟨Tells.yes rfl, Fr.refl _ _⟩
    · rcases hvb with ⟨rfl, rfl⟩ | ⟨g', o', cap', rfl, hc', ha', hr'⟩
      · obtain rfl : l = [] := List.length_eq_zero_iff.1 hlen
        simp only [List.length_nil] at *
        clear hr
        go_enter Try.func19, Try.ntmps19
        go_wp2_with fail
        refine wp_loop_rounds 1 ?_
        rw [rounds_succ]
        go_wp2
        go_ret
        exact ⟨Tells.yes rfl, Fr.refl _ _⟩
      · clear hA hB
        rw [← hlen] at hc' ⊢
        have HR := Lib.hid hr
        have HR' := Lib.hid hr'
        clear hr hr'
        have HLEN := Lib.hid hlen
        clear hlen
        go_enter Try.func19, Try.ntmps19
        go_wp2_with fail
        go_loopw [5] (fun i wr => ∃ k : Nat, k ≤ l.length ∧ i = .int .i64 k ∧ l.take k = m.take k ∧ Fr Nil w wr) (fun i _ => l.length - (intOf i).toNat)
        case atStart => exact ⟨0, by omega, rfl, rfl, Fr.refl _ _⟩
        case round =>
          obtain ⟨k, hk, rfl, hs, hf⟩ := hrel
          have HF := Lib.hid hf
          have HS := Lib.hid hs
          clear hf hs
          by_cases hlt : k < l.length
          · obtain ⟨x, hx⟩ : ∃ x, l[k]? = some x := ⟨l[k], List.getElem?_eq_getElem hlt⟩
            obtain ⟨y, hy⟩ : ∃ y, m[k]? = some y := ⟨m[k]'(by have := HLEN.out; omega), List.getElem?_eq_getElem _⟩
            have c0 := row_at (HR.out.fr HF.out ha id) hx
            have d0 := row_at (HR'.out.fr HF.out ha' id) hy
            have HX := Lib.hid hx
            have HY := Lib.hid hy
            have hk0 : (0 : Int) ≤ k := by omega
            have hk1 : (k : Int) < l.length := by omega
            clear hx hy
            by_cases hxy : x = y
            · subst hxy
              go_wp2_with fail
              go_quiet (fail)
              go_wp2_with fail
              go_roundw
              case rel =>
                refine ⟨k + 1, by omega, by go_num, ?_, HF.out.drewN _⟩
                rw [List.take_add_one, List.take_add_one, HX.out, HY.out, HS.out]
              case measure => simp [intOf]; omega
            · go_wp2_with fail
              go_quiet (fail)
              go_wp2_with fail
              go_ret
              refine ⟨Tells.no fun h => hxy ?_, HF.out.drewN _⟩
              have h1 := HX.out
              rw [h, HY.out] at h1
              cases h1
              rfl
          · obtain rfl : k = l.length := by omega
            go_wp2_with fail
            go_ret
            refine ⟨Tells.yes ?_, HF.out⟩
            have h := HS.out
            have e := HLEN.out
            rw [List.take_length, e, List.take_length] at h
            exact h
  · subst hA
    subst hB
    clear hva hvb
    have hl2 : ¬ (l.length : Int) = m.length := by omega
    go_enter Try.func19, Try.ntmps19
    go_wp2_with fail
    go_ret
    exact ⟨Tells.no fun h => hlen (by rw [h]), Fr.refl _ _⟩

set_option maxHeartbeats 4000000 in
theorem sameR_any (r s : Rp) (v u : Value) (hl : r.ids.length ≤ 100000) (hl' : s.ids.length ≤ 100000) (hv : Rv w v r) (hu : Rv w u s) :
    Calls Try.prog 10 #[v, u] w fun e w' => Tells (Eqr r s) e ∧ Fr Nil w w' := by
  obtain ⟨p, rfl, hp⟩ := hv
  obtain ⟨q, rfl, hq⟩ := hu
  have hB := (Bk.new w 27 (rc r p)).alloc (.cells (rc s q) 27)
  have hD := Bk.new (w.alloc (.cells (rc r p) 27)) 27 (rc s q)
  rw [show (w.alloc (.cells (rc r p) 27)).heap.size = w.heap.size + 1 by simp] at hD
  have G := Lib.hid (((Fr.refl Nil w).alloc (.cells (rc r p) 27)).alloc (.cells (rc s q) 27))
  have KL := Lib.hid (lists_any _ r.ids s.ids p q hl hl' (hp.fr G.out) (hq.fr G.out))
  obtain ⟨A, cp, rfl⟩ := hp.shape
  obtain ⟨B, dp, rfl⟩ := hq.shape
  clear hp hq
  obtain ⟨c, a, l, n, ids⟩ := r
  obtain ⟨c', a', l', n', ids'⟩ := s
  unfold rv rc at *
  dsimp only at *
  obtain ⟨b0, b1, b2, b3, b4, _⟩ := hB.c5
  obtain ⟨d0, d1, d2, d3, d4, _⟩ := hD.c5
  have HG := Lib.hid (show Eqr (Rp.mk c a l n ids) (Rp.mk c' a' l' n' ids') ↔ c = c' ∧ a = a' ∧ l = l' ∧ n = n' ∧ Eql ids ids' by unfold Eqr Eql; simp)
  clear hB hD hl hl'
  generalize ids.length = m at *
  generalize ids'.length = m' at *
  by_cases h1 : c = c'
  · subst h1
    by_cases h2 : a = a'
    · subst h2
      by_cases h3 : l = l'
      · subst h3
        by_cases h4 : n = n'
        · subst h4
          go_enter Try.func10, Try.ntmps10
          go_wp2_with fail
          refine KL.out.mono ?_
          rintro e w1 ⟨⟨b, rfl, hb⟩, hf1⟩
          have HB := Lib.hid hb
          have HF := Lib.hid (G.out.trans hf1)
          clear hb hf1
          go_wp2_with fail
          go_ret
          exact ⟨⟨b, rfl, by rw [HG.out, HB.out]; simp⟩, HF.out⟩
        · go_enter Try.func10, Try.ntmps10
          go_wp2_with fail
          go_ret
          exact ⟨Tells.no (by rw [HG.out]; exact fun h => h4 h.2.2.2.1), G.out⟩
      · have h3' : (l == l') = false := by simpa using h3
        go_enter Try.func10, Try.ntmps10
        go_wp2_with fail
        go_ret
        exact ⟨Tells.no (by rw [HG.out]; exact fun h => h3 h.2.2.1), G.out⟩
    · have h2' : (a == a') = false := by simpa using h2
      go_enter Try.func10, Try.ntmps10
      go_wp2_with fail
      go_ret
      exact ⟨Tells.no (by rw [HG.out]; exact fun h => h2 h.2.1), G.out⟩
  · go_enter Try.func10, Try.ntmps10
    go_wp2_with fail
    go_ret
    exact ⟨Tells.no (by rw [HG.out]; exact fun h => h1 h.1), G.out⟩
set_option maxHeartbeats 4000000 in
theorem goodR_any (r : Rp) (v : Value) (hl : r.ids.length ≤ 100000) (hv : Rv w v r) :
    Calls Try.prog 8 #[v] w fun e w' => Tells (GoodR r) e ∧ Fr Nil w w' := by
  obtain ⟨s, rfl, hs⟩ := hv
  have hB := Bk.new w 27 (rc r s)
  have G := Lib.hid ((Fr.refl Nil w).alloc (.cells (rc r s) 27))
  have HS := Lib.hid (hs.fr G.out)
  obtain ⟨A, cp, rfl⟩ := hs.shape
  clear hs
  obtain ⟨c, a, l, n, ids⟩ := r
  unfold rv rc at *
  dsimp only at *
  obtain ⟨b0, b1, b2, b3, b4, _⟩ := hB.c5
  have HG := Lib.hid (show GoodR ⟨c, a, l, n, ids⟩ ↔ 0 ≤ c ∧ c ≤ 12 ∧ (l = true → a = true) ∧ (a = true → c = 0) ∧ 0 ≤ n ∧ n ≤ 1048576 ∧ (a = false → n = 0) ∧ (l = false → ids = []) ∧ (l = true → (ids.length : Int) = n) ∧ Ris ids from Iff.rfl)
  have HE := Lib.hid (show ids = [] ↔ ids.length = 0 from List.length_eq_zero_iff.symm)
  have HN := Lib.hid (show ids.length = 0 → Ris ids from fun h => by rw [List.length_eq_zero_iff.1 h]; exact ⟨by simp [Asc], by simp⟩)
  clear hB
  generalize hm : ids.length = m at *
  have HM := Lib.hid hm.symm
  clear hm
  by_cases h1 : c < 0
  · go_enter Try.func8, Try.ntmps8
    go_wp2_with fail
    go_ret
    exact ⟨Tells.no (by rw [HG.out, HE.out]; intro h; obtain ⟨h1, h2, h3, h4, h5, h6, h7, h8, h9, _⟩ := h; simp_all; try omega), G.out⟩
  · by_cases h2 : 12 < c
    · go_enter Try.func8, Try.ntmps8
      go_wp2_with fail
      go_ret
      exact ⟨Tells.no (by rw [HG.out, HE.out]; intro h; obtain ⟨h1, h2, h3, h4, h5, h6, h7, h8, h9, _⟩ := h; simp_all; try omega), G.out⟩
    · cases a with
      | false =>
        cases l with
        | true =>
          go_enter Try.func8, Try.ntmps8
          go_wp2_with fail
          go_ret
          exact ⟨Tells.no (by rw [HG.out, HE.out]; intro h; obtain ⟨h1, h2, h3, h4, h5, h6, h7, h8, h9, _⟩ := h; simp_all; try omega), G.out⟩
        | false =>
          by_cases h3 : n < 0
          · go_enter Try.func8, Try.ntmps8
            go_wp2_with fail
            go_ret
            exact ⟨Tells.no (by rw [HG.out, HE.out]; intro h; obtain ⟨h1, h2, h3, h4, h5, h6, h7, h8, h9, _⟩ := h; simp_all; try omega), G.out⟩
          · by_cases h4 : 1048576 < n
            · go_enter Try.func8, Try.ntmps8
              go_wp2_with fail
              go_ret
              exact ⟨Tells.no (by rw [HG.out, HE.out]; intro h; obtain ⟨h1, h2, h3, h4, h5, h6, h7, h8, h9, _⟩ := h; simp_all; try omega), G.out⟩
            · by_cases k1 : n = 0
              · subst k1
                by_cases k2 : m = 0
                · subst k2
                  go_enter Try.func8, Try.ntmps8
                  go_wp2_with fail
                  refine wp_loop_rounds 1 ?_
                  rw [rounds_succ]
                  go_wp2
                  go_ret
                  exact ⟨Tells.yes (by rw [HG.out, HE.out]; have := HN.out; simp_all; try omega), G.out⟩
                · have k3 : (0 : Int) < m := by omega
                  go_enter Try.func8, Try.ntmps8
                  go_wp2_with fail
                  go_ret
                  exact ⟨Tells.no (by rw [HG.out, HE.out]; intro h; obtain ⟨h1, h2, h3, h4, h5, h6, h7, h8, h9, _⟩ := h; simp_all; try omega), G.out⟩
              · go_enter Try.func8, Try.ntmps8
                go_wp2_with fail
                go_ret
                exact ⟨Tells.no (by rw [HG.out, HE.out]; intro h; obtain ⟨h1, h2, h3, h4, h5, h6, h7, h8, h9, _⟩ := h; simp_all; try omega), G.out⟩
      | true =>
        cases l with
        | false =>
          by_cases k1 : c = 0
          · subst k1
            by_cases h3 : n < 0
            · go_enter Try.func8, Try.ntmps8
              go_wp2_with fail
              go_ret
              exact ⟨Tells.no (by rw [HG.out, HE.out]; intro h; obtain ⟨h1, h2, h3, h4, h5, h6, h7, h8, h9, _⟩ := h; simp_all; try omega), G.out⟩
            · by_cases h4 : 1048576 < n
              · go_enter Try.func8, Try.ntmps8
                go_wp2_with fail
                go_ret
                exact ⟨Tells.no (by rw [HG.out, HE.out]; intro h; obtain ⟨h1, h2, h3, h4, h5, h6, h7, h8, h9, _⟩ := h; simp_all; try omega), G.out⟩
              · by_cases k2 : m = 0
                · subst k2
                  go_enter Try.func8, Try.ntmps8
                  go_wp2_with fail
                  refine wp_loop_rounds 1 ?_
                  rw [rounds_succ]
                  go_wp2
                  go_ret
                  exact ⟨Tells.yes (by rw [HG.out, HE.out]; have := HN.out; simp_all; try omega), G.out⟩
                · have k3 : (0 : Int) < m := by omega
                  go_enter Try.func8, Try.ntmps8
                  go_wp2_with fail
                  go_ret
                  exact ⟨Tells.no (by rw [HG.out, HE.out]; intro h; obtain ⟨h1, h2, h3, h4, h5, h6, h7, h8, h9, _⟩ := h; simp_all; try omega), G.out⟩
          · go_enter Try.func8, Try.ntmps8
            go_wp2_with fail
            go_ret
            exact ⟨Tells.no (by rw [HG.out, HE.out]; intro h; obtain ⟨h1, h2, h3, h4, h5, h6, h7, h8, h9, _⟩ := h; simp_all; try omega), G.out⟩
        | true =>
          by_cases k1 : c = 0
          · subst k1
            by_cases h3 : n < 0
            · go_enter Try.func8, Try.ntmps8
              go_wp2_with fail
              go_ret
              exact ⟨Tells.no (by rw [HG.out, HE.out]; intro h; obtain ⟨h1, h2, h3, h4, h5, h6, h7, h8, h9, _⟩ := h; simp_all; try omega), G.out⟩
            · by_cases h4 : 1048576 < n
              · go_enter Try.func8, Try.ntmps8
                go_wp2_with fail
                go_ret
                exact ⟨Tells.no (by rw [HG.out, HE.out]; intro h; obtain ⟨h1, h2, h3, h4, h5, h6, h7, h8, h9, _⟩ := h; simp_all; try omega), G.out⟩
              · by_cases k4 : (m : Int) = n
                · subst k4
                  have hsl := HS.out
                  rcases hsl with ⟨he, h0⟩ | ⟨g, o, cap, he, hc, ha, hr⟩
                  · have hm0 : m = 0 := by rw [HM.out, h0]; rfl
                    injection he with he1 he2 he3
                    subst he1
                    subst he3
                    subst hm0
                    go_enter Try.func8, Try.ntmps8
                    go_wp2_with fail
                    refine wp_loop_rounds 1 ?_
                    rw [rounds_succ]
                    go_wp2
                    go_ret
                    exact ⟨Tells.yes (by rw [HG.out, HE.out]; have := HN.out; simp_all; try omega), G.out⟩
                  · injection he with he1 he2 he3
                    subst he1
                    subst he3
                    have HR := Lib.hid hr
                    clear hr he2
                    go_enter Try.func8, Try.ntmps8
                    go_wp2_with fail
                    go_loopw [4] (fun i wr => ∃ j : Nat, j ≤ m ∧ i = .int .i64 j ∧ (∀ y ∈ ids.take j, ¬ Odd y) ∧ (∀ (k : Nat) x y, k + 1 < j → ids[k]? = some x → ids[k + 1]? = some y → x ≤ y) ∧ Fr Nil (w.alloc (.cells #[.int .i64 0, .bool true, .bool true, .int .i64 m, .slice (some ⟨g, o, none⟩) m cp] 27)) wr) (fun i _ => m - (intOf i).toNat)
                    case atStart => exact ⟨0, by omega, rfl, by simp, fun k x y hk => by omega, Fr.refl _ _⟩
                    case round =>
                      obtain ⟨j, hj, rfl, hs1, hs2, hf⟩ := hrel
                      have HF := Lib.hid hf
                      have HS1 := Lib.hid hs1
                      have HS2 := Lib.hid hs2
                      have hj0 : (0 : Int) ≤ j := Int.natCast_nonneg j
                      clear hf hs1 hs2
                      by_cases hlt : j < m
                      · have hlt' : (j : Int) < m := by omega
                        obtain ⟨x, hx⟩ : ∃ x, ids[j]? = some x := ⟨ids[j]'(by have := HM.out; omega), List.getElem?_eq_getElem _⟩
                        have c0 := row_at (HR.out.fr HF.out ha id) hx
                        have HX := Lib.hid hx
                        have HM2 := Lib.hid (show x ∈ ids from List.mem_of_getElem? hx)
                        clear hx
                        by_cases e1 : x < 1
                        · have e1' : decide (x < 1) = true := decide_eq_true e1
                          go_wp2_with fail
                          go_quiet (fail)
                          go_wp2_with fail
                          go_ret
                          exact ⟨Tells.no (by rw [HG.out]; exact fun h => h.2.2.2.2.2.2.2.2.2.2 x HM2.out (Or.inl e1)), (G.out.trans HF.out).drewN _⟩
                        by_cases e2 : 2147483647 < x
                        · have e1' : decide (x < 1) = false := decide_eq_false e1
                          have e2' : decide (2147483647 < x) = true := decide_eq_true e2
                          go_wp2_with fail
                          go_quiet (fail)
                          go_wp2_with fail
                          go_ret
                          exact ⟨Tells.no (by rw [HG.out]; exact fun h => h.2.2.2.2.2.2.2.2.2.2 x HM2.out (Or.inr e2)), (G.out.trans HF.out).drewN _⟩
                        have HO := Lib.hid (show ¬ Odd x by unfold Odd; omega)
                        have e1' : decide (x < 1) = false := decide_eq_false e1
                        have e2' : decide (2147483647 < x) = false := decide_eq_false e2
                        have HT := Lib.hid (show ∀ y ∈ ids.take (j + 1), ¬ Odd y by
                          intro y hy
                          rw [List.take_add_one, HX.out] at hy
                          rcases List.mem_append.1 hy with h | h
                          · exact HS1.out y h
                          · simp at h; subst h; exact HO.out)
                        by_cases e3 : 0 < j
                        · obtain ⟨k, rfl⟩ : ∃ k, j = k + 1 := ⟨j - 1, by omega⟩
                          obtain ⟨z, hz⟩ : ∃ z, ids[k]? = some z := ⟨ids[k]'(by have := HM.out; omega), List.getElem?_eq_getElem _⟩
                          have c1 := row_at (HR.out.fr HF.out ha id) hz
                          have HZ := Lib.hid hz
                          clear hz
                          have e3' : decide ((0 : Int) < (k : Int) + 1) = true := decide_eq_true (by omega)
                          by_cases e4 : x < z
                          · have e4' : decide (x < z) = true := decide_eq_true e4
                            go_wp2_with fail
                            go_quiet (fail)
                            go_wp2_with fail
                            go_ret
                            exact ⟨Tells.no (by rw [HG.out]; exact fun h => by have := h.2.2.2.2.2.2.2.2.2.1 k z x HZ.out HX.out; omega), (G.out.trans HF.out).drewN _⟩
                          · have e4' : decide (x < z) = false := decide_eq_false e4
                            go_wp2_with fail
                            go_quiet (fail)
                            go_wp2_with fail
                            go_roundw
                            case rel =>
                              refine ⟨k + 1 + 1, by omega, by go_num, HT.out, fun i x' y' hi hx' hy' => ?_, HF.out.drewN _⟩
                              by_cases hik : i = k
                              · subst hik
                                have h1 := HZ.out
                                have h2 := HX.out
                                rw [h1] at hx'
                                rw [h2] at hy'
                                cases hx'
                                cases hy'
                                omega
                              · exact HS2.out i x' y' (by omega) hx' hy'
                            case measure => simp [intOf]; omega
                        · have e3' : decide ((0 : Int) < (j : Int)) = false := decide_eq_false (by omega)
                          go_wp2_with fail
                          go_quiet (fail)
                          go_wp2_with fail
                          go_roundw
                          case rel => exact ⟨j + 1, by omega, by go_num, HT.out, fun i x' y' hi => by omega, HF.out.drewN _⟩
                          case measure => simp [intOf]; omega
                      · obtain rfl : j = m := by omega
                        go_wp2_with fail
                        go_ret
                        refine ⟨Tells.yes ?_, G.out.trans HF.out⟩
                        have hR : Ris ids := by
                          have h1 := HS1.out
                          have h2 := HS2.out
                          rw [HM.out] at h1 h2
                          rw [List.take_length] at h1
                          exact ⟨fun k x y hx hy => h2 k x y (List.getElem?_eq_some_iff.1 hy).1 hx hy, h1⟩
                        rw [HG.out]
                        clear HG HE HN HS HS1 HS2 HR HF
                        simp_all
                        try omega
                · go_enter Try.func8, Try.ntmps8
                  go_wp2_with fail
                  go_ret
                  exact ⟨Tells.no (by rw [HG.out, HE.out]; intro h; obtain ⟨h1, h2, h3, h4, h5, h6, h7, h8, h9, _⟩ := h; simp_all; try omega), G.out⟩
          · go_enter Try.func8, Try.ntmps8
            go_wp2_with fail
            go_ret
            exact ⟨Tells.no (by rw [HG.out, HE.out]; intro h; obtain ⟨h1, h2, h3, h4, h5, h6, h7, h8, h9, _⟩ := h; simp_all; try omega), G.out⟩
end
end Go.Proofs.Ytfkjonpbopoiaaa.ReplyC
