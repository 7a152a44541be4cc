import Derived.Test.YtalbaopfdejooaaHullU
/- Chapter 41: the walk of side. -/
namespace Go.Proofs.Ytalbaopfdejooaa.HullV
open Go.RowKit Base Slices RowsA KernA KernE AreaA HullC HullD HullE HullF HullG HullH HullI HullJ HullK HullL HullO HullR HullS HullT Quiet
open AreaB (nxi nxi_lt nxi_rem)
open HullA (D)
set_option linter.unusedVariables false
set_option linter.unusedSimpArgs false

/-- it lies on the left of each side, or on it -/
def Left (h : List Pn) (p : Pn) : Prop := ∀ (i : Nat) (a b : Pn), h[i]? = some a → h[nxi h.length i]? = some b → 0 ≤ tD a b p

open Classical in
noncomputable def leftB (h : List Pn) (p : Pn) : Bool := decide (Left h p)
open Classical in
theorem leftB_iff {h : List Pn} {p : Pn} : leftB h p = true ↔ Left h p := by unfold leftB; exact decide_eq_true_iff
theorem leftB_no {h : List Pn} {p : Pn} (k : ¬ Left h p) : leftB h p = false := by rw [Bool.eq_false_iff]; exact fun e => k (leftB_iff.1 e)

set_option maxRecDepth 100000 in
set_option maxHeartbeats 8000000 in
theorem side_any (h : List Pn) (p : Pn) (v : Value) (w : World) (hl : h.length ≤ 1000) (hv : Sl EPt w v h) :
    Calls Try.prog 37 #[v, .agg #[.int .i64 p.1, .int .i64 p.2.1, .int .i64 p.2.2]] w fun e w' => e = .returned (.bool (leftB h p)) ∧ Fr Nil w w' := by
  obtain ⟨r, hr0⟩ : ∃ r, leftB h p = r := ⟨_, rfl⟩
  rw [hr0]
  have HLB := Lib.hid hr0
  clear hr0
  rcases hv with ⟨rfl, rfl⟩ | ⟨g, o, cap, rfl, hc, ha, hr⟩
  · go_enter Try.func37, Try.ntmps37
    go_wp2_with fail
    refine wp_loop_rounds 1 ?_
    rw [rounds_succ]
    go_wp2
    go_ret
    exact ⟨by rw [← HLB.out, leftB_iff.2 (show Left [] p from fun i a b h1 => by simp at h1)]; rfl, (Fr.refl _ _).alloc _⟩
  · have HB := Lib.hid (Bk.new w 34 #[.int .i64 p.1, .int .i64 p.2.1, .int .i64 p.2.2])
    have HG0 := Lib.hid ((Fr.refl Nil w).alloc (.cells #[.int .i64 p.1, .int .i64 p.2.1, .int .i64 p.2.2] 34))
    have HR := Lib.hid (hr.fr HG0.out ha id)
    have hgl0 : g < (w.alloc (.cells #[.int .i64 p.1, .int .i64 p.2.1, .int .i64 p.2.2] 34)).heap.size := by simp; omega
    obtain ⟨W0, hW0⟩ : ∃ W0, (w.alloc (.cells #[.int .i64 p.1, .int .i64 p.2.1, .int .i64 p.2.2] 34)) = W0 := ⟨_, rfl⟩
    have HW0 := Lib.hid hW0
    rw [hW0] at HB HG0 HR hgl0
    clear hr hW0
    go_enter Try.func37, Try.ntmps37
    go_wp2_with fail
    rw [HW0.out]
    go_loopw [9] (fun i wr => ∃ (k : Nat), k ≤ h.length ∧ i = .int .i64 k ∧ (∀ (i : Nat) (a b : Pn), i < k → h[i]? = some a → h[nxi h.length i]? = some b → 0 ≤ tD a b p) ∧ Fr Nil W0 wr) (fun i _ => h.length - (intOf i).toNat)
    case atStart => exact ⟨0, by omega, rfl, fun i a b h => absurd h (by omega), Fr.refl _ _⟩
    case round =>
      obtain ⟨i, hi, rfl, hno, hf⟩ := hrel
      have HNO := Lib.hid hno
      have HF := Lib.hid hf
      clear hno hf
      by_cases hlt : i < h.length
      · obtain ⟨a, hA⟩ : ∃ a, h[i]? = some a := ⟨h[i], List.getElem?_eq_getElem hlt⟩
        obtain ⟨m, hm⟩ : ∃ m, nxi h.length i = m := ⟨_, rfl⟩
        have hml : m < h.length := by rw [← hm]; exact nxi_lt hlt
        obtain ⟨b, hBk⟩ : ∃ b, h[m]? = some b := ⟨h[m], List.getElem?_eq_getElem hml⟩
        have hrem := nxi_rem hlt
        rw [hm] at hrem
        have HA := Lib.hid hA
        have HBk := Lib.hid hBk
        have HM := Lib.hid hm
        have hBa := Bk.new wr 34 #[.int .i64 a.1, .int .i64 a.2.1, .int .i64 a.2.2]
        have hfa : Fr Nil wr (wr.alloc (.cells #[.int .i64 a.1, .int .i64 a.2.1, .int .i64 a.2.2] 34)) := (Fr.refl Nil wr).alloc _
        have HFA := Lib.hid (HF.out.trans hfa)
        obtain ⟨a0, a1, a2⟩ := pt_at (HR.out.fr HF.out hgl0 id) hA
        obtain ⟨b0, b1, b2⟩ := pt_at (HR.out.fr HFA.out hgl0 id) hBk
        obtain ⟨qa0, qa1, qa2⟩ := KernE.quiet_c3 (S := Nil) hBa id
        have qb0 := fun (z : FrW Nil (wr.alloc (.cells #[.int .i64 a.1, .int .i64 a.2.1, .int .i64 a.2.2] 34))) => cell_q b0 z
        have qb1 := fun (z : FrW Nil (wr.alloc (.cells #[.int .i64 a.1, .int .i64 a.2.1, .int .i64 a.2.2] 34))) => cell_q b1 z
        have qb2 := fun (z : FrW Nil (wr.alloc (.cells #[.int .i64 a.1, .int .i64 a.2.1, .int .i64 a.2.2] 34))) => cell_q b2 z
        obtain ⟨qp0, qp1, qp2⟩ := KernE.quiet_c3 (S := Nil) (HB.out.fr HFA.out id) id
        have KT := fun W => turn_any a b p W
        obtain ⟨z, hz⟩ : ∃ z, tD a b p = z := ⟨_, rfl⟩
        rw [hz] at KT
        have HZ := Lib.hid hz
        replace KT := Lib.hid KT
        have e0 : (0 : Int) ≤ i := by omega
        have e1 : (i : Int) < h.length := by omega
        have e2 : (0 : Int) ≤ m := by omega
        have e3 : (m : Int) < h.length := by omega
        have e4 : ¬ (h.length : Int) = 0 := by omega
        clear hA hBk hm hBa hfa hz b0 b1 b2
        go_wp2_with fail
        refine wp_region_quiet_fr Nil (by kernel_rfl) (by kernel_rfl) ?_
        repeat (go_big_quiet_step (first
          | (go_at_call 45; with_reducible exact quiet_call (KT.out _))))
        refine wpQuiet_nil ?_
        intro w2 hw'
        obtain ⟨⟨wq, hfq⟩, hw''⟩ := hw'
        subst hw''
        have HF2 := Lib.hid (HFA.out.trans hfq)
        clear hfq qa0 qa1 qa2 qb0 qb1 qb2 qp0 qp1 qp2 a0 a1 a2 HF HFA KT hrem
        by_cases hz0 : z < 0
        · have HE := Lib.hid (show r = false by rw [← HLB.out]; exact leftB_no (fun k => by have := k i a b HA.out (by rw [HM.out]; exact HBk.out); rw [HZ.out] at this; omega))
          go_wp2_with fail
          go_ret
          exact ⟨by rw [HE.out]; rfl, HG0.out.trans HF2.out⟩
        · go_wp2_with fail
          go_roundw
          case rel =>
            refine ⟨i + 1, by omega, by go_num, fun j a' b' hj h1 h2 => ?_, HF2.out⟩
            rcases Nat.lt_or_ge j i with h' | h'
            · exact HNO.out j a' b' h' h1 h2
            · obtain rfl : j = i := by omega
              rw [HA.out] at h1
              rw [HM.out, HBk.out] at h2
              obtain rfl := Option.some.inj h1
              obtain rfl := Option.some.inj h2
              rw [HZ.out]
              omega
          case measure => simp [intOf]; omega
      · obtain rfl : i = h.length := by omega
        have HE := Lib.hid (show r = true by rw [← HLB.out]; exact leftB_iff.2 (fun i a b h1 h2 => HNO.out i a b (List.getElem?_eq_some_iff.1 h1).1 h1 h2))
        go_wp2_with fail
        go_ret
        exact ⟨by rw [HE.out]; rfl, HG0.out.trans HF.out⟩
end Go.Proofs.Ytalbaopfdejooaa.HullV

/- Chapter 41: the walk of Has. -/
namespace Go.Proofs.Ytalbaopfdejooaa.HullW
open Go.RowKit Base Slices RowsA KernA KernE AreaA HullC HullD HullE HullF HullG HullH HullI HullJ HullK HullL HullO HullP HullR HullS HullT HullV Quiet
set_option linter.unusedVariables false
set_option linter.unusedSimpArgs false

def PV (p : Pn) : Value := .agg #[.int .i64 p.1, .int .i64 p.2.1, .int .i64 p.2.2]
theorem Has_odd (h : List Pn) (p : Pn) (v : Value) (w : World) (hp : gd p = false) :
    Calls Try.prog 16 #[v, .agg #[.int .i64 p.1, .int .i64 p.2.1, .int .i64 p.2.2]] w fun e w' => e = .returned (.bool false) ∧ Fr Nil w w' := by
  have K := fun W => HullJ.odd_any p W
  simp only [hp, Bool.not_false, Bool.not_true] at K
  have KO := Lib.hid K
  clear K hp
  go_enter Try.func16, Try.ntmps16
  go_wp2_with fail
  refine (KO.out _).mono ?_
  rintro e w1 ⟨rfl, hf⟩
  have HF := Lib.hid (Fr.trans ((Fr.refl Nil w).alloc _) hf)
  clear hf
  go_wp2_with fail
  go_ret
  exact ⟨rfl, HF.out⟩
theorem Has_not (h : List Pn) (p : Pn) (v : Value) (w : World) (hl : h.length ≤ 500) (hv : Sl EPt w v h) (hp : gd p = true) (hc : chk h = false) :
    Calls Try.prog 16 #[v, .agg #[.int .i64 p.1, .int .i64 p.2.1, .int .i64 p.2.2]] w fun e w' => e = .returned (.bool false) ∧ Fr Nil w w' := by
  have K := fun W => HullJ.odd_any p W
  simp only [hp, Bool.not_false, Bool.not_true] at K
  have KO := Lib.hid K
  have KC := Lib.hid (fun W (hf : Fr Nil w W) => check_any h v W hl (hv.fr hf))
  rw [hc] at KC
  clear K hp hc hv
  go_enter Try.func16, Try.ntmps16
  go_wp2_with fail
  refine (KO.out _).mono ?_
  rintro e w1 ⟨rfl, hf⟩
  have HF := Lib.hid (Fr.trans ((Fr.refl Nil w).alloc _) hf)
  clear hf
  go_wp2_with fail
  refine (KC.out _ HF.out).mono ?_
  rintro e w2 ⟨rfl, hf⟩
  replace HF := Lib.hid (HF.out.trans hf)
  clear hf
  go_wp2_with fail
  go_ret
  exact ⟨rfl, HF.out⟩

/-- what Has tells of a hull -/
noncomputable def inH (h : List Pn) (p : Pn) : Bool := match h with
  | [] => false
  | [a] => bzB a a p
  | [a, b] => bzB a b p
  | h => leftB h p
theorem inH_three {h : List Pn} {p : Pn} (h3 : 3 ≤ h.length) : inH h p = leftB h p := by
  rcases h with _ | ⟨a, _ | ⟨b, _ | ⟨c, l⟩⟩⟩
  · simp at h3
  · simp at h3
  · simp at h3
  · simp only [inH]
theorem inH_nil {p : Pn} : inH [] p = false := by simp only [inH]
theorem inH_one {a p : Pn} : inH [a] p = bzB a a p := by simp only [inH]
theorem inH_two {a b p : Pn} : inH [a, b] p = bzB a b p := by simp only [inH]
set_option maxRecDepth 100000 in
set_option maxHeartbeats 4000000 in
theorem Has_yes (h : List Pn) (p : Pn) (v : Value) (w : World) (hl : h.length ≤ 500) (hv : Sl EPt w v h) (hp : gd p = true) (hc : chk h = true) :
    Calls Try.prog 16 #[v, .agg #[.int .i64 p.1, .int .i64 p.2.1, .int .i64 p.2.2]] w fun e w' => e = .returned (.bool (inH h p)) ∧ Fr Nil w w' := by
  obtain ⟨r, hr⟩ : ∃ r, inH h p = r := ⟨_, rfl⟩
  rw [hr]
  have HRR := Lib.hid hr
  have K := fun W => HullJ.odd_any p W
  simp only [hp, Bool.not_false, Bool.not_true] at K
  have KO := Lib.hid K
  have KC := Lib.hid (fun W (hf : Fr Nil w W) => check_any h v W hl (hv.fr hf))
  rw [hc] at KC
  have KS := Lib.hid (fun W (hf : Fr Nil w W) => side_any h p v W (by omega) (hv.fr hf))
  have KB := Lib.hid (fun (a b : Pn) W => KernD.Between_any a.1 a.2.1 a.2.2 b.1 b.2.1 b.2.2 p.1 p.2.1 p.2.2 W)
  have HV := Lib.hid hv
  obtain ⟨A, c, rfl⟩ := hv.shape
  clear K hp hc hv hr
  go_enter Try.func16, Try.ntmps16
  go_wp2_with fail
  refine (KO.out _).mono ?_
  rintro e w1 ⟨rfl, hf⟩
  have HB := Lib.hid ((Bk.new w 34 #[.int .i64 p.1, .int .i64 p.2.1, .int .i64 p.2.2]).fr hf id)
  have HF := Lib.hid (Fr.trans ((Fr.refl Nil w).alloc _) hf)
  clear hf
  go_wp2_with fail
  refine (KC.out _ HF.out).mono ?_
  rintro e w2 ⟨rfl, hf⟩
  replace HB := Lib.hid (HB.out.fr hf id)
  replace HF := Lib.hid (HF.out.trans hf)
  clear hf
  by_cases h0 : h = []
  · subst h0
    have HE := Lib.hid (HRR.out.symm.trans inH_nil)
    simp only [List.length_nil]
    go_wp2_with fail
    go_ret
    exact ⟨by rw [HE.out]; rfl, HF.out⟩
  by_cases h3 : 3 ≤ h.length
  · have HE := Lib.hid (HRR.out.symm.trans (inH_three h3))
    rw [← HE.out] at KS
    have KS2 := Lib.hid (KS.out w2 HF.out)
    have c0 := HB.out.cell 0
    have c1 := HB.out.cell 1
    have c2 := HB.out.cell 2
    simp at c0 c1 c2
    have n0 : ¬ (h.length : Int) = 0 := by omega
    have n1 : ¬ (h.length : Int) = 1 := by omega
    have n2 : ¬ (h.length : Int) = 2 := by omega
    clear KS KC KB h0
    go_wp2_with fail
    refine KS2.out.mono ?_
    rintro e w3 ⟨rfl, hf⟩
    have HF3 := Lib.hid (HF.out.trans hf)
    clear hf
    go_wp2_with fail
    exact bodyPost_ret (v := .bool r) (by simp [results, Try.results16, go_sem]) rfl ⟨rfl, HF3.out⟩
  · have hB := HB.out
    have hV := HV.out.fr HF.out
    rcases h with _ | ⟨a, _ | ⟨b, _ | ⟨d, l⟩⟩⟩
    · exact absurd rfl h0
    rotate_right
    · simp at h3
    all_goals clear h0 h3
    · have HE := Lib.hid (inH_one.symm.trans HRR.out)
      rcases hV with ⟨_, e⟩ | ⟨g, o, cap, e, hcap, ha, hr⟩
      · cases e
      simp only [Value.slice.injEq] at e
      obtain ⟨rfl, _, rfl⟩ := e
      have K := fun W => KB.out a a W
      change ∀ W, Calls _ _ _ W fun e w' => e = .returned (.bool (bzB a a p)) ∧ Fr Nil W w' at K
      rw [HE.out] at K
      have KB2 := Lib.hid K
      obtain ⟨a0, a1, a2⟩ := pt_at hr (i := 0) (p := a) rfl
      obtain ⟨b0, b1, b2⟩ := pt_at hr (i := 0) (p := a) rfl
      simp only [Nat.zero_mul, Nat.add_zero, Nat.one_mul] at a0 a1 a2 b0 b1 b2
      have qa0 := fun (z : FrW Nil w2) => cell_q a0 z
      have qa1 := fun (z : FrW Nil w2) => cell_q a1 z
      have qa2 := fun (z : FrW Nil w2) => cell_q a2 z
      have qb0 := fun (z : FrW Nil w2) => cell_q b0 z
      have qb1 := fun (z : FrW Nil w2) => cell_q b1 z
      have qb2 := fun (z : FrW Nil w2) => cell_q b2 z
      obtain ⟨qp0, qp1, qp2⟩ := KernE.quiet_c3 (S := Nil) hB id
      simp only [List.length_cons, List.length_nil, Nat.zero_add, Nat.reduceAdd] at hcap ⊢
      clear K KB KS KC KO HV hr a0 a1 a2 b0 b1 b2 hB HRR
      go_wp2_with fail
      refine wp_region_quiet_fr Nil (by kernel_rfl) (by kernel_rfl) ?_
      repeat (go_big_quiet_step (first
        | (go_at_call 36; with_reducible exact quiet_call (KB2.out _))))
      refine wpQuiet_nil ?_
      intro w3 hw'
      obtain ⟨⟨wq, hfq⟩, hw''⟩ := hw'
      subst hw''
      have HF3 := Lib.hid (HF.out.trans hfq)
      clear hfq qa0 qa1 qa2 qb0 qb1 qb2 qp0 qp1 qp2
      go_wp2_with fail
      exact bodyPost_ret (v := .bool r) (by simp [results, Try.results16, go_sem]) rfl ⟨rfl, HF3.out⟩
    · have HE := Lib.hid (inH_two.symm.trans HRR.out)
      rcases hV with ⟨_, e⟩ | ⟨g, o, cap, e, hcap, ha, hr⟩
      · cases e
      simp only [Value.slice.injEq] at e
      obtain ⟨rfl, _, rfl⟩ := e
      have K := fun W => KB.out a b W
      change ∀ W, Calls _ _ _ W fun e w' => e = .returned (.bool (bzB a b p)) ∧ Fr Nil W w' at K
      rw [HE.out] at K
      have KB2 := Lib.hid K
      obtain ⟨a0, a1, a2⟩ := pt_at hr (i := 0) (p := a) rfl
      obtain ⟨b0, b1, b2⟩ := pt_at hr (i := 1) (p := b) rfl
      simp only [Nat.zero_mul, Nat.add_zero, Nat.one_mul] at a0 a1 a2 b0 b1 b2
      have qa0 := fun (z : FrW Nil w2) => cell_q a0 z
      have qa1 := fun (z : FrW Nil w2) => cell_q a1 z
      have qa2 := fun (z : FrW Nil w2) => cell_q a2 z
      have qb0 := fun (z : FrW Nil w2) => cell_q b0 z
      have qb1 := fun (z : FrW Nil w2) => cell_q b1 z
      have qb2 := fun (z : FrW Nil w2) => cell_q b2 z
      obtain ⟨qp0, qp1, qp2⟩ := KernE.quiet_c3 (S := Nil) hB id
      simp only [List.length_cons, List.length_nil, Nat.zero_add, Nat.reduceAdd] at hcap ⊢
      clear K KB KS KC KO HV hr a0 a1 a2 b0 b1 b2 hB HRR
      go_wp2_with fail
      refine wp_region_quiet_fr Nil (by kernel_rfl) (by kernel_rfl) ?_
      repeat (go_big_quiet_step (first
        | (go_at_call 36; with_reducible exact quiet_call (KB2.out _))))
      refine wpQuiet_nil ?_
      intro w3 hw'
      obtain ⟨⟨wq, hfq⟩, hw''⟩ := hw'
      subst hw''
      have HF3 := Lib.hid (HF.out.trans hfq)
      clear hfq qa0 qa1 qa2 qb0 qb1 qb2 qp0 qp1 qp2
      go_wp2_with fail
      exact bodyPost_ret (v := .bool r) (by simp [results, Try.results16, go_sem]) rfl ⟨rfl, HF3.out⟩
end Go.Proofs.Ytalbaopfdejooaa.HullW

