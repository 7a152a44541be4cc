/- Chapter 8: the walk of nth, with any comparison. -/
import Derived.Test.YtokgeegbeagblaaGenH
namespace Go.Proofs.Ytokgeegbeagblaa.GenI
open Go.RowKit Base SortA SortB SortC SortD SortE SortG SortI SortK PickA GenA GenC GenD GenE GenF GenG GenH
set_option linter.unusedVariables false
set_option linter.unusedSimpArgs false

section
variable {F : FuncId} {first : Array Value} {S : Nat → Prop} {J : Nat → World → Prop}
theorem fr_two {w wa w1 : World} (h0 : Fr S w wa) (h1 : Fr S wa w1) (u0 u1 : Value) : Fr S w ((w1.setCell ⟨w.heap.size, 0, none⟩ u0).setCell ⟨w.heap.size, 1, none⟩ u1) :=
  ((h0.trans h1).setCell (p := ⟨w.heap.size, 0, none⟩) (fun h => absurd h (Nat.lt_irrefl _)) _).setCell (p := ⟨w.heap.size, 1, none⟩) (fun h => absurd h (Nat.lt_irrefl _)) _
theorem cnt_two (L : Ls F first S J) {w w1 : World} {n a b : Nat} (h : Cnt J n a w1) (hs : ¬ S w.heap.size) (hb : a ≤ b) (u0 u1 : Value) : Cnt J n b ((w1.setCell ⟨w.heap.size, 0, none⟩ u0).setCell ⟨w.heap.size, 1, none⟩ u1) :=
  (h.keep L (((Fr.refl (fun k => k = w.heap.size) w1).setCell (p := ⟨w.heap.size, 0, none⟩) (fun _ => rfl) u0).setCell (p := ⟨w.heap.size, 1, none⟩) (fun _ => rfl) u1) (fun k hk => by have e : k = w.heap.size := hk; rw [e]; exact hs)).le hb
set_option maxRecDepth 100000 in
set_option maxHeartbeats 8000000 in
theorem nth_n (L : Ls F first S J) (n : Nat) (N : Nat) : ∀ (l : List Pr) (k : Nat) (v : Value) (kk : Nat) (w : World), l.length ≤ N → l.length ≤ 200 → k < l.length → n + kk + nb l.length ≤ 50000 → Slx S w v l → Cnt J n kk w →
    Calls Try.prog 26 #[v, .int .i64 k, lessG F first] w fun e w' => ∃ x y : Pr, e = .returned (.agg #[.int .i64 x.1, .int .i64 x.2]) ∧ (isort l)[k]? = some y ∧ y.1 = x.1 ∧ Fr S w w' ∧ Cnt J n (kk + nb l.length) w' := by
  induction N using Nat.strongRecOn with
  | ind N ih =>
    intro l k v kk w hN hl hk hb hv hc
    have HNS := Lib.hid (show ∀ i, w.heap.size ≤ i → ¬ S i from fun i hi => hc.new L hi)
    have HB := Lib.hid (Bk.new w 28 #[.int .i64 0, .int .i64 0])
    have HV := Lib.hid (hv.nil ((Fr.refl Nil w).alloc (.cells #[.int .i64 0, .int .i64 0] 28)))
    have HC := Lib.hid (hc.nil L ((Fr.refl Nil w).alloc (.cells #[.int .i64 0, .int .i64 0] 28)))
    have HL0 := Lib.hid L
    have HBD := Lib.hid hb
    have HN := Lib.hid hN
    have HL := Lib.hid hl
    have HK := Lib.hid hk
    have IH := Lib.hid ih
    obtain ⟨A0, c0, rfl⟩ := Sl.shape hv.1
    clear hv hc ih hb hN hl hk
    unfold lessG at *
    go_enter Try.func26, Try.ntmps26
    go_wp2_with fail
    go_loopw [0, 1] (fun vl vk wr => ∃ (l' : List Pr) (k' c : Nat), Slx S wr vl l' ∧ vk = .int .i64 k' ∧ k' < l'.length ∧ l'.length ≤ l.length ∧ (isort l')[k']? = (isort l)[k]? ∧ c + nb l'.length ≤ nb l.length ∧ Cnt J n (kk + c) wr ∧ Fr S (w.alloc (.cells #[.int .i64 0, .int .i64 0] 28)) wr) (fun vl _ _ => lenV vl)
    case atStart => exact ⟨l, k, 0, HV.out, rfl, HK.out, Nat.le_refl _, rfl, by omega, HC.out, Fr.refl _ _⟩
    case round =>
      obtain ⟨l', k', c, hv', rfl, hk', hll, hat, hcb, hcn, hf⟩ := hrel
      have hl200 : l'.length ≤ 200 := Nat.le_trans hll HL.out
      have HF := Lib.hid hf
      have HAT := Lib.hid hat
      have HCB := Lib.hid hcb
      have HCN := Lib.hid hcn
      have HK' := Lib.hid hk'
      have HLL := Lib.hid hll
      obtain ⟨y0, hy0⟩ : ∃ y, (isort l')[k']? = some y := ⟨(isort l')[k']'(by rw [isort_len]; exact hk'), List.getElem?_eq_getElem _⟩
      have HY0 := Lib.hid hy0
      have HYL := Lib.hid (show (isort l)[k]? = some y0 from by rw [← hat]; exact hy0)
      have hb1 := HB.out.fr hf (HNS.out _ (Nat.le_refl _))
      have HB1 := Lib.hid hb1
      have hbd := HBD.out
      clear hat hy0
      by_cases h10 : 10 < l'.length
      · have hv2 := hv'
        obtain ⟨hvs, hvS⟩ := hv'
        rcases hvs with ⟨rfl, h0⟩ | ⟨g, o, cap, rfl, hcp, hga, hr⟩
        · rw [h0] at h10; simp at h10
        have hstep := fun a (ha : a ≤ rs l'.length) => nb_step h10 ha
        have KM := Lib.hid (middles_any HL0.out n (kk + c) l' g o cap wr (by omega) hl200 (by omega) hcp hga hr (hvS g rfl) hcn)
        have hrs := rs_lt h10
        have hnc : nch l'.length < l'.length ∧ 0 < nch l'.length := by unfold nch; omega
        have hst0 := hstep 0 (Nat.zero_le _)
        have KN := Lib.hid (fun u W h1 h2 => IH.out (nch l'.length) (by have := HN.out; omega) (mids l') (nch l'.length / 2) u (kk + c + 10 * nch l'.length) W (by rw [mids_len]; exact Nat.le_refl _) (by rw [mids_len]; omega) (by rw [mids_len]; omega) (by rw [mids_len]; omega) h1 h2)
        rw [mids_len] at KN
        have KP := Lib.hid (fun p W h1 h2 => parts_any HL0.out n (kk + c + 10 * nch l'.length + nb (nch l'.length)) l' p (.slice (some ⟨g, o, none⟩) l'.length cap) W (by omega) (by omega) h1 h2)
        have HV2 := Lib.hid hv2
        have HST := Lib.hid hstep
        have HRS := Lib.hid hrs
        have h10' : (10 : Int) < l'.length := by omega
        obtain ⟨M, hM⟩ : ∃ M, nch l'.length = M := ⟨_, rfl⟩
        obtain ⟨q, hq⟩ : ∃ q, M / 2 = q := ⟨_, rfl⟩
        have HM := Lib.hid hM
        have HQ := Lib.hid (show nch l'.length / 2 = q by rw [hM, hq])
        have HMM := Lib.hid (show (mids l').length = M by rw [mids_len, hM])
        rw [hM] at KM KN KP
        rw [hq] at KN
        have hn2 : (M : Int) / 2 = (q : Int) := by omega
        have hn3 : (0 : Int) ≤ (M : Int) := Int.natCast_nonneg _
        have hn4 : (0 : Int) ≤ (q : Int) := Int.natCast_nonneg _
        have hn5 : wrap64 (q : Int) = q := PickC.wrap_small (by unfold nch at hM; omega)
        have hn6 : (M : Int).tdiv 2 = (q : Int) := by rw [Int.tdiv_eq_ediv_of_nonneg hn3]; exact hn2
        clear hb1 hv2 hr hga hcp hvS hf hcn hcb hstep hst0 hrs hnc hbd hM hq
        unfold lessG at KM KP
        go_wp2_with fail
        refine KM.out.mono ?_
        rintro e w1 ⟨u, rfl, hf1, ho1, hc1⟩
        have HF1 := Lib.hid hf1
        have HO1 := Lib.hid (slx_new HL0.out HCN.out ho1.sl (fun g hg => (PickA.Own.lt ho1 g hg).1))
        have HC1 := Lib.hid hc1
        obtain ⟨A1, c1, rfl⟩ := Sl.shape ho1.sl
        rw [HMM.out] at HO1 ⊢
        clear hf1 ho1 hc1
        go_wp2_with fail
        refine (KN.out _ _ HO1.out HC1.out).mono ?_
        rintro e w2 ⟨x, y, rfl, hy, hxy, hf2, hc2⟩
        have HF2 := Lib.hid (HF1.out.trans hf2)
        have HC2 := Lib.hid hc2
        have HY := Lib.hid hy
        have HXY := Lib.hid hxy
        clear hf2 hc2 hy hxy
        go_wp2_with fail
        refine (KP.out x _ (Slx.fr HV2.out HF2.out) HC2.out).mono ?_
        rintro e w3 ⟨va, vb, vc, rfl, hf3, h3, hc3⟩
        have HF3 := Lib.hid (HF2.out.trans hf3)
        have HC3 := Lib.hid hc3
        have HA3 := Lib.hid (slx_new HL0.out HC2.out h3.1.sl (fun g hg => by have := (PickA.Own.lt h3.1 g hg).1; omega))
        have HC3' := Lib.hid (slx_new HL0.out HC2.out h3.2.2.1.sl (fun g hg => by have := (PickA.Own.lt h3.2.2.1 g hg).1; omega))
        obtain ⟨Aa, ca, rfl⟩ := Sl.shape h3.1.sl
        obtain ⟨Ab, cb, rfl⟩ := Sl.shape h3.2.1.sl
        obtain ⟨Ac, cc, rfl⟩ := Sl.shape h3.2.2.1.sl
        have HM3 := Lib.hid h3.2.1.sl
        have hlens := cut_lens x.1 l'
        have HLENS := Lib.hid hlens
        have hyy := HY.out
        rw [← HQ.out] at hyy
        have hlo := lo_small hyy
        have hhi := hi_small hyy
        rw [HXY.out] at hlo hhi
        have HLO := Lib.hid hlo
        have HHI := Lib.hid hhi
        have p0 : (0 : Int) ≤ ((lo x.1 l').length : Nat) := Int.natCast_nonneg _
        have p1 : (0 : Int) ≤ ((mi x.1 l').length : Nat) := Int.natCast_nonneg _
        have p2 : ((lo x.1 l').length : Int) + (mi x.1 l').length ≤ 200 := by omega
        have p3 : ((lo x.1 l').length : Int) ≤ 200 := by omega
        have p4 : ((mi x.1 l').length : Int) ≤ 200 := by omega
        have p5 : (k' : Int) ≤ 200 := by have := HK'.out; omega
        have p6 : (0 : Int) ≤ k' := Int.natCast_nonneg _
        clear hf3 hc3 h3 hlens hyy hlo hhi
        by_cases ca1 : k' < (lo x.1 l').length
        · have CA1 := Lib.hid ca1
          have ca1' : (k' : Int) < ((lo x.1 l').length : Nat) := by omega
          clear ca1
          go_wp2_with fail
          go_roundw
          case rel => exact ⟨lo x.1 l', k', c + 10 * M + nb M + 2 * l'.length, HA3.out, rfl, CA1.out, by have := HLO.out; have := HRS.out; have := HLL.out; omega, by rw [← at_lo CA1.out]; exact HAT.out, by have := HST.out _ HLO.out; rw [HM.out] at this; have := HCB.out; omega, HC3.out.le (by omega), HF.out.trans HF3.out⟩
          case measure => have h := Sl.lenV HA3.out.1; rw [h]; have := HLO.out; have := HRS.out; simp [lenV]; omega
        · have ca1' : ((lo x.1 l').length : Int) ≤ k' := by omega
          have CA1 := Lib.hid (show (lo x.1 l').length ≤ k' by omega)
          by_cases ca2 : k' < (lo x.1 l').length + (mi x.1 l').length
          · have ca2' : (k' : Int) < ((lo x.1 l').length : Int) + (mi x.1 l').length := by omega
            have hm3 := HM3.out
            rcases hm3 with ⟨hz, h0⟩ | ⟨gm, om, cm, hz, hcm, hgm, hrm⟩
            · rw [h0] at ca2; simp at ca2; omega
            obtain ⟨z, hz0⟩ : ∃ z, (mi x.1 l')[0]? = some z := ⟨(mi x.1 l')[0]'(by omega), List.getElem?_eq_getElem _⟩
            simp only [Value.slice.injEq] at hz
            obtain ⟨rfl, hz1, rfl⟩ := hz
            clear hz1
            obtain ⟨z0, z1⟩ := hrm 0 z hz0
            rw [Nat.zero_mul, Nat.add_zero] at z0 z1
            have HZ := Lib.hid (show z.1 = x.1 from by have h := List.mem_of_getElem? hz0; have := (List.mem_filter.1 h).2; simpa using this)
            have HKY := Lib.hid (at_mi CA1.out ca2 HY0.out)
            have p7 : (0 : Int) < ((mi x.1 l').length : Nat) := by omega
            have hb3 := HB1.out.fr HF3.out (HNS.out _ (Nat.le_refl _))
            obtain ⟨b0, b1, b2, b3⟩ := hb3.c2
            clear hrm hcm hz0 ca1 ca2
            go_wp2_with fail
            have q0 := (hb3.put 0 (.int .i64 z.1)).cell 0
            have q1 := ((hb3.put 0 (.int .i64 z.1)).put 1 (.int .i64 z.2)).cell 1
            simp at q0 q1
            exact bodyPost_ret (v := .agg #[.int .i64 z.1, .int .i64 z.2]) (by simp [results, Try.results26, go_sem, q0, q1]) rfl ⟨z, y0, rfl, HYL.out, by rw [HKY.out, HZ.out], fr_two ((Fr.refl S w).alloc _) (HF.out.trans HF3.out) _ _, cnt_two HL0.out HC3.out (HNS.out _ (Nat.le_refl _)) (by have := HST.out 0 (Nat.zero_le _); rw [HM.out] at this; have := HCB.out; omega) _ _⟩
          · have CA2 := Lib.hid (show (lo x.1 l').length + (mi x.1 l').length ≤ k' by omega)
            have ca2' : ((lo x.1 l').length : Int) + (mi x.1 l').length ≤ k' := by omega
            have hj := HLENS.out
            have hk2 := HK'.out
            obtain ⟨j, hje⟩ : ∃ j, k' - (lo x.1 l').length - (mi x.1 l').length = j := ⟨_, rfl⟩
            have hjI : (k' : Int) - (lo x.1 l').length - (mi x.1 l').length = j := by omega
            have HJL := Lib.hid (show j < (hi x.1 l').length by omega)
            have HAH := Lib.hid (show (isort (hi x.1 l'))[j]? = (isort l)[k]? by rw [← hje, ← at_hi CA2.out]; exact HAT.out)
            clear ca1 ca2 hj hk2 hje
            go_wp2_with fail
            go_roundw
            case rel => exact ⟨hi x.1 l', j, c + 10 * M + nb M + 2 * l'.length, HC3'.out, rfl, HJL.out, by have := HHI.out; have := HRS.out; have := HLL.out; omega, HAH.out, by have := HST.out _ HHI.out; rw [HM.out] at this; have := HCB.out; omega, HC3.out.le (by omega), HF.out.trans HF3.out⟩
            case measure => have h := Sl.lenV HC3'.out.1; rw [h]; have := HHI.out; have := HRS.out; simp [lenV]; omega
      · have h10' : (l'.length : Int) ≤ 10 := by omega
        have KS := Lib.hid (sort_any HL0.out n l' _ (kk + c) wr (by omega) (by have h1 := sc_ten (show l'.length ≤ 10 by omega); have h2 := nb_small (show l'.length ≤ 10 by omega); omega) hv' hcn)
        have HNB := Lib.hid (sc_ten (show l'.length ≤ 10 by omega))
        have HNB2 := Lib.hid (nb_small (show l'.length ≤ 10 by omega))
        obtain ⟨A1, c1, rfl⟩ := Sl.shape hv'.1
        have HIL := Lib.hid (isort_len l')
        have hkI : (k' : Int) < l'.length := by omega
        have hkI0 : (0 : Int) ≤ k' := by omega
        clear hv' hcn hf hcb hb1 hbd
        unfold lessG at KS
        go_wp2_with fail
        refine KS.out.mono ?_
        rintro e w1 ⟨u, rfl, hf1, hs1, hn1, hc1⟩
        have HF1 := Lib.hid hf1
        have HC1 := Lib.hid hc1
        obtain ⟨hs1, _⟩ := hs1
        have hil := HIL.out
        rcases hs1 with ⟨rfl, h0⟩ | ⟨g, o, cap, rfl, hcp, hga, hr⟩
        · have := HY0.out; rw [h0] at this; simp at this
        obtain ⟨z0, z1⟩ := hr k' y0 HY0.out
        have hb3 := HB1.out.fr hf1 (HNS.out _ (Nat.le_refl _))
        obtain ⟨b0, b1, b2, b3⟩ := hb3.c2
        rw [hil] at *
        clear hr hcp hf1 hc1 hil hn1
        go_wp2_with fail
        have q0 := (hb3.put 0 (.int .i64 y0.1)).cell 0
        have q1 := ((hb3.put 0 (.int .i64 y0.1)).put 1 (.int .i64 y0.2)).cell 1
        simp at q0 q1
        exact bodyPost_ret (v := .agg #[.int .i64 y0.1, .int .i64 y0.2]) (by simp [results, Try.results26, go_sem, q0, q1]) rfl ⟨y0, y0, rfl, HYL.out, rfl, fr_two ((Fr.refl S w).alloc _) (HF.out.trans HF1.out) _ _, cnt_two HL0.out HC1.out (HNS.out _ (Nat.le_refl _)) (by have := HNB.out; have := HNB2.out; have := HCB.out; omega) _ _⟩
end
end Go.Proofs.Ytokgeegbeagblaa.GenI
