/- Chapter 30: the walks of slices.Equal, of the package's Same and Good. -/
import Derived.Test.YtfkjonpbopoiaaaReplyC
namespace Go.Proofs.Ytfkjonpbopoiaaa.ReplyQ
open Go.RowKit Base Slices VintA VintB Quiet ReplyA ReplyB ReplyC
set_option linter.unusedVariables false
set_option linter.unusedSimpArgs false
section
variable (w : World)
theorem equal_lists (l m : List Int) (va vb : Value) (hl : l.length ≤ 100000) (hm : m.length ≤ 100000) (hva : Sl EI w va l) (hvb : Sl EI w vb m) :
    Calls Try.prog 24 #[va, vb] w fun e w' => Tells (Eql l m) e ∧ Fr Nil w w' := by
  obtain ⟨A, c, hA⟩ := hva.shape
  obtain ⟨B, d, hB⟩ := hvb.shape
  by_cases hlen : l.length = m.length
  · rcases hva with ⟨rfl, rfl⟩ | ⟨g, o, cap, rfl, hc, ha, hr⟩
    · obtain rfl : m = [] := List.length_eq_zero_iff.1 hlen.symm
      subst hB
      clear hA
      simp only [List.length_nil] at *
      clear hvb
      go_enter Try.func24, Try.ntmps24
      go_wp2_with fail
      refine wp_loop_rounds 1 ?_
      rw [rounds_succ]
      go_wp2
      go_ret
      exact ⟨Tells.yes rfl, Fr.refl _ _⟩
    · rcases hvb with ⟨rfl, rfl⟩ | ⟨g', o', cap', rfl, hc', ha', hr'⟩
      · obtain rfl : l = [] := List.length_eq_zero_iff.1 hlen
        simp only [List.length_nil] at *
        clear hr
        go_enter Try.func24, Try.ntmps24
        go_wp2_with fail
        refine wp_loop_rounds 1 ?_
        rw [rounds_succ]
        go_wp2
        go_ret
        exact ⟨Tells.yes rfl, Fr.refl _ _⟩
      · clear hA hB
        rw [← hlen] at hc' ⊢
        have HR := Lib.hid hr
        have HR' := Lib.hid hr'
        clear hr hr'
        have HLEN := Lib.hid hlen
        clear hlen
        go_enter Try.func24, Try.ntmps24
        go_wp2_with fail
        go_loopw [13] (fun i wr => ∃ k : Nat, k ≤ l.length ∧ i = .int .i64 k ∧ l.take k = m.take k ∧ Fr Nil w wr) (fun i _ => l.length - (intOf i).toNat)
        case atStart => exact ⟨0, by omega, rfl, rfl, Fr.refl _ _⟩
        case round =>
          obtain ⟨k, hk, rfl, hs, hf⟩ := hrel
          have HF := Lib.hid hf
          have HS := Lib.hid hs
          clear hf hs
          by_cases hlt : k < l.length
          · obtain ⟨x, hx⟩ : ∃ x, l[k]? = some x := ⟨l[k], List.getElem?_eq_getElem hlt⟩
            obtain ⟨y, hy⟩ : ∃ y, m[k]? = some y := ⟨m[k]'(by have := HLEN.out; omega), List.getElem?_eq_getElem _⟩
            have c0 := row_at (HR.out.fr HF.out ha id) hx
            have d0 := row_at (HR'.out.fr HF.out ha' id) hy
            have HX := Lib.hid hx
            have HY := Lib.hid hy
            have hk0 : (0 : Int) ≤ k := by omega
            have hk1 : (k : Int) < l.length := by omega
            clear hx hy
            by_cases hxy : x = y
            · subst hxy
              go_wp2_with fail
              go_quiet (fail)
              go_wp2_with fail
              go_roundw
              case rel =>
                refine ⟨k + 1, by omega, by go_num, ?_, HF.out.drewN _⟩
                rw [List.take_add_one, List.take_add_one, HX.out, HY.out, HS.out]
              case measure => simp [intOf]; omega
            · go_wp2_with fail
              go_quiet (fail)
              go_wp2_with fail
              go_ret
              refine ⟨Tells.no fun h => hxy ?_, HF.out.drewN _⟩
              have h1 := HX.out
              rw [h, HY.out] at h1
              cases h1
              rfl
          · obtain rfl : k = l.length := by omega
            go_wp2_with fail
            go_ret
            refine ⟨Tells.yes ?_, HF.out⟩
            have h := HS.out
            have e := HLEN.out
            rw [List.take_length, e, List.take_length] at h
            exact h
  · subst hA
    subst hB
    clear hva hvb
    have hl2 : ¬ (l.length : Int) = m.length := by omega
    go_enter Try.func24, Try.ntmps24
    go_wp2_with fail
    go_ret
    exact ⟨Tells.no fun h => hlen (by rw [h]), Fr.refl _ _⟩

set_option maxHeartbeats 4000000 in
theorem sameP_any (r s : Rp) (v u : Value) (hl : r.ids.length ≤ 100000) (hl' : s.ids.length ≤ 100000) (hv : Rv w v r) (hu : Rv w u s) :
    Calls Try.prog 14 #[v, u] w fun e w' => Tells (Eqr r s) e ∧ Fr Nil w w' := by
  obtain ⟨p, rfl, hp⟩ := hv
  obtain ⟨q, rfl, hq⟩ := hu
  have hB := (Bk.new w 27 (rc r p)).alloc (.cells (rc s q) 27)
  have hD := Bk.new (w.alloc (.cells (rc r p) 27)) 27 (rc s q)
  rw [show (w.alloc (.cells (rc r p) 27)).heap.size = w.heap.size + 1 by simp] at hD
  have G := Lib.hid (((Fr.refl Nil w).alloc (.cells (rc r p) 27)).alloc (.cells (rc s q) 27))
  have KL := Lib.hid (equal_lists _ r.ids s.ids p q hl hl' (hp.fr G.out) (hq.fr G.out))
  obtain ⟨A, cp, rfl⟩ := hp.shape
  obtain ⟨B, dp, rfl⟩ := hq.shape
  clear hp hq
  obtain ⟨c, a, l, n, ids⟩ := r
  obtain ⟨c', a', l', n', ids'⟩ := s
  unfold rv rc at *
  dsimp only at *
  obtain ⟨b0, b1, b2, b3, b4, _⟩ := hB.c5
  obtain ⟨d0, d1, d2, d3, d4, _⟩ := hD.c5
  have HG := Lib.hid (show Eqr (Rp.mk c a l n ids) (Rp.mk c' a' l' n' ids') ↔ c = c' ∧ a = a' ∧ l = l' ∧ n = n' ∧ Eql ids ids' by unfold Eqr Eql; simp)
  clear hB hD hl hl'
  generalize ids.length = m at *
  generalize ids'.length = m' at *
  by_cases h1 : c = c'
  · subst h1
    by_cases h2 : a = a'
    · subst h2
      by_cases h3 : l = l'
      · subst h3
        by_cases h4 : n = n'
        · subst h4
          go_enter Try.func14, Try.ntmps14
          go_wp2_with fail
          refine KL.out.mono ?_
          rintro e w1 ⟨⟨b, rfl, hb⟩, hf1⟩
          have HB := Lib.hid hb
          have HF := Lib.hid (G.out.trans hf1)
          clear hb hf1
          go_wp2_with fail
          go_ret
          exact ⟨⟨b, rfl, by rw [HG.out, HB.out]; simp⟩, HF.out⟩
        · go_enter Try.func14, Try.ntmps14
          go_wp2_with fail
          go_ret
          exact ⟨Tells.no (by rw [HG.out]; exact fun h => h4 h.2.2.2.1), G.out⟩
      · have h3' : (l == l') = false := by simpa using h3
        go_enter Try.func14, Try.ntmps14
        go_wp2_with fail
        go_ret
        exact ⟨Tells.no (by rw [HG.out]; exact fun h => h3 h.2.2.1), G.out⟩
    · have h2' : (a == a') = false := by simpa using h2
      go_enter Try.func14, Try.ntmps14
      go_wp2_with fail
      go_ret
      exact ⟨Tells.no (by rw [HG.out]; exact fun h => h2 h.2.1), G.out⟩
  · go_enter Try.func14, Try.ntmps14
    go_wp2_with fail
    go_ret
    exact ⟨Tells.no (by rw [HG.out]; exact fun h => h1 h.1), G.out⟩

theorem goodP_any (r : Rp) (v : Value) (hl : r.ids.length ≤ 100000) (hv : Rv w v r) :
    Calls Try.prog 13 #[v] w fun e w' => Tells (GoodR r) e ∧ Fr Nil w w' := by
  obtain ⟨s, rfl, hs⟩ := hv
  have HB := Lib.hid (Bk.new w 27 (rc r s))
  have G0 := Lib.hid ((Fr.refl Nil w).alloc (.cells (rc r s) 27))
  have K := Lib.hid (good_any _ r (rv r s) hl ⟨s, rfl, hs.fr G0.out⟩)
  obtain ⟨A, cp, rfl⟩ := hs.shape
  clear hs
  obtain ⟨c, a, l, n, ids⟩ := r
  unfold rv rc at *
  dsimp only at *
  obtain ⟨b0, b1, b2, b3, b4, _⟩ := HB.out.c5
  go_enter Try.func13, Try.ntmps13
  go_wp2_with fail
  refine K.out.mono ?_
  rintro e w1 ⟨⟨b, rfl, hb⟩, hf⟩
  have HB1 := Lib.hid hb
  have HF := Lib.hid (G0.out.trans hf)
  clear hb hf
  go_wp2_with fail
  go_ret
  exact ⟨⟨b, rfl, HB1.out⟩, HF.out⟩
end
end Go.Proofs.Ytfkjonpbopoiaaa.ReplyQ
