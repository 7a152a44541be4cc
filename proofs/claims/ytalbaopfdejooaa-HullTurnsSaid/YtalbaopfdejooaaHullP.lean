/- Chapter 41: the reference's inner. -/
import Derived.Test.YtalbaopfdejooaaHullO
namespace Go.Proofs.Ytalbaopfdejooaa.HullP
open Go.RowKit Base Slices RowsA KernA KernE AreaA HullD HullE HullF HullG HullH HullI HullJ HullM HullN HullO Quiet
open HullA (lt at_ D)
set_option linter.unusedVariables false
set_option linter.unusedSimpArgs false

def bzB (a b p : Pn) : Bool := bz a.2.1 a.2.2 b.2.1 b.2.2 p.2.1 p.2.2
theorem btw_any (a b p : Pn) (w : World) : Calls Try.prog 58 #[.agg #[.int .i64 a.1, .int .i64 a.2.1, .int .i64 a.2.2], .agg #[.int .i64 b.1, .int .i64 b.2.1, .int .i64 b.2.2], .agg #[.int .i64 p.1, .int .i64 p.2.1, .int .i64 p.2.2]] w fun e w' => e = .returned (.bool (bzB a b p)) ∧ Fr Nil w w' :=
  KernD.rBetween_any a.1 a.2.1 a.2.2 b.1 b.2.1 b.2.2 p.1 p.2.1 p.2.2 w
/-- three others have it between them -/
def hit3 (p a b c : Pn) : Prop := ¬ at_ c p ∧ wiB a b c p = true
/-- the i-th and the k-th, alone or with a third one ahead of them, have it between them -/
def hit2 (s : List Pn) (p : Pn) (i k : Nat) : Prop := ∃ a b, s[i]? = some a ∧ s[k]? = some b ∧ ¬ at_ a p ∧ ¬ at_ b p ∧ (bzB a b p = true ∨ ∃ j c, j < k ∧ s[j]? = some c ∧ hit3 p a b c)
def hits (s : List Pn) (p : Pn) : Prop := ∃ i k, k < i ∧ hit2 s p i k

set_option maxRecDepth 100000 in
set_option maxHeartbeats 16000000 in
theorem inner_any (s : List Pn) (p : Pn) (v : Value) (w : World) (hl : s.length ≤ 1000) (hv : Sl EPt w v s) :
    Calls Try.prog 33 #[v, .agg #[.int .i64 p.1, .int .i64 p.2.1, .int .i64 p.2.2]] w fun e w' => ∃ r : Bool, e = .returned (.bool r) ∧ Fr Nil w w' ∧ (r = true ↔ hits s p) := by
  rcases hv with ⟨rfl, rfl⟩ | ⟨g, o, cap, rfl, hc, ha, hr⟩
  · go_enter Try.func33, Try.ntmps33
    go_wp2_with fail
    refine wp_loop_rounds 1 ?_
    rw [rounds_succ]
    go_wp2
    go_ret
    exact ⟨_, rfl, (Fr.refl _ _).alloc _, by unfold hits hit2; simp⟩
  · have HB := Lib.hid (Bk.new w 34 #[.int .i64 p.1, .int .i64 p.2.1, .int .i64 p.2.2])
    have HG0 := Lib.hid ((Fr.refl Nil w).alloc (.cells #[.int .i64 p.1, .int .i64 p.2.1, .int .i64 p.2.2] 34))
    have HR := Lib.hid (hr.fr HG0.out ha id)
    have hgl0 : g < (w.alloc (.cells #[.int .i64 p.1, .int .i64 p.2.1, .int .i64 p.2.2] 34)).heap.size := by simp; omega
    obtain ⟨W0, hW0⟩ : ∃ W0, (w.alloc (.cells #[.int .i64 p.1, .int .i64 p.2.1, .int .i64 p.2.2] 34)) = W0 := ⟨_, rfl⟩
    have HW0 := Lib.hid hW0
    rw [hW0] at HB HG0 HR hgl0
    clear hr hW0
    have KA := fun x W => at_any x p W
    go_enter Try.func33, Try.ntmps33
    go_wp2_with fail
    rw [HW0.out]
    go_loopw [5] (fun i wr => ∃ (k : Nat), k ≤ s.length ∧ i = .int .i64 k ∧ (∀ i' k', i' < k → k' < i' → ¬ hit2 s p i' k') ∧ Fr Nil W0 wr) (fun i _ => s.length - (intOf i).toNat)
    case atStart => exact ⟨0, by omega, rfl, fun i' k' h => absurd h (by omega), Fr.refl _ _⟩
    case round =>
      obtain ⟨i, hi, rfl, hno, hf⟩ := hrel
      have HNO := Lib.hid hno
      have HF := Lib.hid hf
      clear hno hf
      by_cases hlt : i < s.length
      · obtain ⟨a, hA⟩ : ∃ a, s[i]? = some a := ⟨s[i], List.getElem?_eq_getElem hlt⟩
        have HA := Lib.hid hA
        clear hA
        go_wp2_with fail
        go_loopw [6] (fun x wr => ∃ (k : Nat), k ≤ i ∧ x = .int .i64 k ∧ (∀ k', k' < k → ¬ hit2 s p i k') ∧ Fr Nil W0 wr) (fun x _ => i - (intOf x).toNat)
        case atStart => exact ⟨0, by omega, rfl, fun k' h => absurd h (by omega), HF.out⟩
        case round =>
          obtain ⟨k, hk, rfl, hno, hf⟩ := hrel
          have HNK := Lib.hid hno
          have HF := Lib.hid hf
          clear hno hf
          have hi0 : (0 : Int) ≤ i := by omega
          have hi1 : (i : Int) < s.length := by omega
          by_cases hki : k < i
          · obtain ⟨b, hBk⟩ : ∃ b, s[k]? = some b := ⟨s[k]'(by omega), List.getElem?_eq_getElem _⟩
            have HBk := Lib.hid hBk
            clear hBk
            have hk0 : (0 : Int) ≤ k := by omega
            have hk1 : (k : Int) < s.length := by omega
            have hk2 : (k : Int) < i := by omega
            have KA1 := KA a
            have KA2 := KA b
            obtain ⟨za, hza⟩ : ∃ z, atB a p = z := ⟨_, rfl⟩
            obtain ⟨zb, hzb⟩ : ∃ z, atB b p = z := ⟨_, rfl⟩
            rw [hza] at KA1
            rw [hzb] at KA2
            replace KA1 := Lib.hid KA1
            replace KA2 := Lib.hid KA2
            have HZA := Lib.hid hza
            have HZB := Lib.hid hzb
            clear hza hzb
            obtain ⟨a0, a1, a2⟩ := pt_at (HR.out.fr HF.out hgl0 id) HA.out
            have qa0 := fun (z : FrW Nil wr) => cell_q a0 z
            have qa1 := fun (z : FrW Nil wr) => cell_q a1 z
            have qa2 := fun (z : FrW Nil wr) => cell_q a2 z
            obtain ⟨b0, b1, b2⟩ := pt_at (HR.out.fr HF.out hgl0 id) HBk.out
            have qb0 := fun (z : FrW Nil wr) => cell_q b0 z
            have qb1 := fun (z : FrW Nil wr) => cell_q b1 z
            have qb2 := fun (z : FrW Nil wr) => cell_q b2 z
            obtain ⟨qp0, qp1, qp2⟩ := KernE.quiet_c3 (S := Nil) (HB.out.fr HF.out id) id
            rcases za with _ | _
            case true =>
              have HE := Lib.hid (show ¬ hit2 s p i k from fun ⟨a', b', h1, h2, h3, h4, _⟩ => by
                rw [HA.out] at h1; obtain rfl := Option.some.inj h1
                exact h3 (atB_iff.1 HZA.out))
              go_wp2_with fail
              refine wp_region_quiet_fr Nil (by kernel_rfl) (by kernel_rfl) ?_
              repeat (go_big_quiet_step (first | (go_at_call 57; with_reducible exact quiet_call (KA1.out _)) | (go_at_call 57; with_reducible exact quiet_call (KA2.out _))))
              refine wpQuiet_nil ?_
              intro w2 hw'
              obtain ⟨⟨wq, hfq⟩, hw''⟩ := hw'
              subst hw''
              have HF2 := Lib.hid (HF.out.trans hfq)
              clear hfq HF
              clear a0 qa0 a1 qa1 a2 qa2 b0 qb0 b1 qb1 b2 qb2 qp0 qp1 qp2
              go_wp2_with fail
              go_roundw
              case rel =>
                refine ⟨k + 1, by omega, by go_num, fun k' h => ?_, HF2.out⟩
                rcases Nat.lt_or_ge k' k with h' | h'
                · exact HNK.out k' h'
                · obtain rfl : k' = k := by omega
                  exact HE.out
              case measure => simp [intOf]; omega
            rcases zb with _ | _
            case true =>
              have HE := Lib.hid (show ¬ hit2 s p i k from fun ⟨a', b', h1, h2, h3, h4, _⟩ => by
                rw [HBk.out] at h2; obtain rfl := Option.some.inj h2
                exact h4 (atB_iff.1 HZB.out))
              go_wp2_with fail
              refine wp_region_quiet_fr Nil (by kernel_rfl) (by kernel_rfl) ?_
              repeat (go_big_quiet_step (first | (go_at_call 57; with_reducible exact quiet_call (KA1.out _)) | (go_at_call 57; with_reducible exact quiet_call (KA2.out _))))
              refine wpQuiet_nil ?_
              intro w2 hw'
              obtain ⟨⟨wq, hfq⟩, hw''⟩ := hw'
              subst hw''
              have HF2 := Lib.hid (HF.out.trans hfq)
              clear hfq HF
              clear a0 qa0 a1 qa1 a2 qa2 b0 qb0 b1 qb1 b2 qb2 qp0 qp1 qp2
              go_wp2_with fail
              go_roundw
              case rel =>
                refine ⟨k + 1, by omega, by go_num, fun k' h => ?_, HF2.out⟩
                rcases Nat.lt_or_ge k' k with h' | h'
                · exact HNK.out k' h'
                · obtain rfl : k' = k := by omega
                  exact HE.out
              case measure => simp [intOf]; omega
            go_wp2_with fail
            refine wp_region_quiet_fr Nil (by kernel_rfl) (by kernel_rfl) ?_
            repeat (go_big_quiet_step (first | (go_at_call 57; with_reducible exact quiet_call (KA1.out _)) | (go_at_call 57; with_reducible exact quiet_call (KA2.out _))))
            refine wpQuiet_nil ?_
            intro w2 hw'
            obtain ⟨⟨wq, hfq⟩, hw''⟩ := hw'
            subst hw''
            have HF2 := Lib.hid (HF.out.trans hfq)
            clear hfq HF
            clear a0 qa0 a1 qa1 a2 qa2 b0 qb0 b1 qb1 b2 qb2 qp0 qp1 qp2 KA1 KA2
            rename World => wr
            have HF := HF2
            clear HF2
            have NA := Lib.hid (atB_no.1 HZA.out)
            have NB := Lib.hid (atB_no.1 HZB.out)
            have KB := fun W => btw_any a b p W
            obtain ⟨zt, hzt⟩ : ∃ z, bzB a b p = z := ⟨_, rfl⟩
            rw [hzt] at KB
            have HZT := Lib.hid hzt
            replace KB := Lib.hid KB
            clear hzt HZA HZB
            obtain ⟨a0, a1, a2⟩ := pt_at (HR.out.fr HF.out hgl0 id) HA.out
            have qa0 := fun (z : FrW Nil wr) => cell_q a0 z
            have qa1 := fun (z : FrW Nil wr) => cell_q a1 z
            have qa2 := fun (z : FrW Nil wr) => cell_q a2 z
            obtain ⟨b0, b1, b2⟩ := pt_at (HR.out.fr HF.out hgl0 id) HBk.out
            have qb0 := fun (z : FrW Nil wr) => cell_q b0 z
            have qb1 := fun (z : FrW Nil wr) => cell_q b1 z
            have qb2 := fun (z : FrW Nil wr) => cell_q b2 z
            obtain ⟨qp0, qp1, qp2⟩ := KernE.quiet_c3 (S := Nil) (HB.out.fr HF.out id) id
            go_wp2_with fail
            refine wp_region_quiet_fr Nil (by kernel_rfl) (by kernel_rfl) ?_
            repeat (go_big_quiet_step ((go_at_call 58; with_reducible exact quiet_call (KB.out _))))
            refine wpQuiet_nil ?_
            intro w2 hw'
            obtain ⟨⟨wq, hfq⟩, hw''⟩ := hw'
            subst hw''
            have HF2 := Lib.hid (HF.out.trans hfq)
            clear hfq HF
            clear a0 qa0 a1 qa1 a2 qa2 b0 qb0 b1 qb1 b2 qb2 qp0 qp1 qp2 KB
            rcases zt with _ | _
            case true =>
              have HE := Lib.hid (show hits s p from ⟨i, k, hki, a, b, HA.out, HBk.out, NA.out, NB.out, Or.inl HZT.out⟩)
              go_wp2_with fail
              go_ret
              exact ⟨true, rfl, HG0.out.trans HF2.out, fun _ => HE.out, fun _ => rfl⟩
            go_wp2_with fail
            go_loopw [7] (fun x wr => ∃ (j : Nat), j ≤ k ∧ x = .int .i64 j ∧ (∀ j' c, j' < j → s[j']? = some c → ¬ hit3 p a b c) ∧ Fr Nil W0 wr) (fun x _ => k - (intOf x).toNat)
            case atStart => exact ⟨0, by omega, rfl, fun j' c h => absurd h (by omega), HF2.out⟩
            case round =>
              obtain ⟨j, hj, rfl, hno, hf⟩ := hrel
              have HNJ := Lib.hid hno
              have HF := Lib.hid hf
              clear hno hf HF2
              by_cases hjk : j < k
              · obtain ⟨c, hC⟩ : ∃ c, s[j]? = some c := ⟨s[j]'(by omega), List.getElem?_eq_getElem _⟩
                have HC := Lib.hid hC
                clear hC
                have hj0 : (0 : Int) ≤ j := by omega
                have hj1 : (j : Int) < s.length := by omega
                have hj2 : (j : Int) < k := by omega
                have KC := KA c
                have KW := fun W => within_any a b c p W
                obtain ⟨zc, hzc⟩ : ∃ z, atB c p = z := ⟨_, rfl⟩
                obtain ⟨zw, hzw⟩ : ∃ z, wiB a b c p = z := ⟨_, rfl⟩
                rw [hzc] at KC
                rw [hzw] at KW
                replace KC := Lib.hid KC
                replace KW := Lib.hid KW
                have HZC := Lib.hid hzc
                have HZW := Lib.hid hzw
                clear hzc hzw
                obtain ⟨a0, a1, a2⟩ := pt_at (HR.out.fr HF.out hgl0 id) HA.out
                have qa0 := fun (z : FrW Nil wr) => cell_q a0 z
                have qa1 := fun (z : FrW Nil wr) => cell_q a1 z
                have qa2 := fun (z : FrW Nil wr) => cell_q a2 z
                obtain ⟨b0, b1, b2⟩ := pt_at (HR.out.fr HF.out hgl0 id) HBk.out
                have qb0 := fun (z : FrW Nil wr) => cell_q b0 z
                have qb1 := fun (z : FrW Nil wr) => cell_q b1 z
                have qb2 := fun (z : FrW Nil wr) => cell_q b2 z
                obtain ⟨c0, c1, c2⟩ := pt_at (HR.out.fr HF.out hgl0 id) HC.out
                have qc0 := fun (z : FrW Nil wr) => cell_q c0 z
                have qc1 := fun (z : FrW Nil wr) => cell_q c1 z
                have qc2 := fun (z : FrW Nil wr) => cell_q c2 z
                obtain ⟨qp0, qp1, qp2⟩ := KernE.quiet_c3 (S := Nil) (HB.out.fr HF.out id) id
                rcases zc with _ | _
                case true =>
                  have HE := Lib.hid (show ¬ hit3 p a b c from fun h => h.1 (atB_iff.1 HZC.out))
                  go_wp2_with fail
                  refine wp_region_quiet_fr Nil (by kernel_rfl) (by kernel_rfl) ?_
                  repeat (go_big_quiet_step (first | (go_at_call 57; with_reducible exact quiet_call (KC.out _)) | (go_at_call 59; with_reducible exact quiet_call (KW.out _))))
                  refine wpQuiet_nil ?_
                  intro w2 hw'
                  obtain ⟨⟨wq, hfq⟩, hw''⟩ := hw'
                  subst hw''
                  have HF2 := Lib.hid (HF.out.trans hfq)
                  clear hfq HF
                  clear a0 qa0 a1 qa1 a2 qa2 b0 qb0 b1 qb1 b2 qb2 c0 qc0 c1 qc1 c2 qc2 qp0 qp1 qp2
                  go_wp2_with fail
                  go_roundw
                  case rel =>
                    refine ⟨j + 1, by omega, by go_num, fun j' c' h hc' => ?_, HF2.out⟩
                    rcases Nat.lt_or_ge j' j with h' | h'
                    · exact HNJ.out j' c' h' hc'
                    · obtain rfl : j' = j := by omega
                      rw [HC.out] at hc'
                      obtain rfl := Option.some.inj hc'
                      exact HE.out
                  case measure => simp [intOf]; omega
                rcases zw with _ | _
                case false =>
                  have HE := Lib.hid (show ¬ hit3 p a b c from fun h => by have := h.2; rw [HZW.out] at this; cases this)
                  go_wp2_with fail
                  refine wp_region_quiet_fr Nil (by kernel_rfl) (by kernel_rfl) ?_
                  repeat (go_big_quiet_step (first | (go_at_call 57; with_reducible exact quiet_call (KC.out _)) | (go_at_call 59; with_reducible exact quiet_call (KW.out _))))
                  refine wpQuiet_nil ?_
                  intro w2 hw'
                  obtain ⟨⟨wq, hfq⟩, hw''⟩ := hw'
                  subst hw''
                  have HF2 := Lib.hid (HF.out.trans hfq)
                  clear hfq HF
                  clear a0 qa0 a1 qa1 a2 qa2 b0 qb0 b1 qb1 b2 qb2 c0 qc0 c1 qc1 c2 qc2 qp0 qp1 qp2
                  go_wp2_with fail
                  go_roundw
                  case rel =>
                    refine ⟨j + 1, by omega, by go_num, fun j' c' h hc' => ?_, HF2.out⟩
                    rcases Nat.lt_or_ge j' j with h' | h'
                    · exact HNJ.out j' c' h' hc'
                    · obtain rfl : j' = j := by omega
                      rw [HC.out] at hc'
                      obtain rfl := Option.some.inj hc'
                      exact HE.out
                  case measure => simp [intOf]; omega
                have HE := Lib.hid (show hits s p from ⟨i, k, hki, a, b, HA.out, HBk.out, NA.out, NB.out, Or.inr ⟨j, c, hjk, HC.out, atB_no.1 HZC.out, HZW.out⟩⟩)
                go_wp2_with fail
                refine wp_region_quiet_fr Nil (by kernel_rfl) (by kernel_rfl) ?_
                repeat (go_big_quiet_step (first | (go_at_call 57; with_reducible exact quiet_call (KC.out _)) | (go_at_call 59; with_reducible exact quiet_call (KW.out _))))
                refine wpQuiet_nil ?_
                intro w2 hw'
                obtain ⟨⟨wq, hfq⟩, hw''⟩ := hw'
                subst hw''
                have HF2 := Lib.hid (HF.out.trans hfq)
                clear hfq HF
                clear a0 qa0 a1 qa1 a2 qa2 b0 qb0 b1 qb1 b2 qb2 c0 qc0 c1 qc1 c2 qc2 qp0 qp1 qp2
                go_wp2_with fail
                go_ret
                exact ⟨true, rfl, HG0.out.trans HF2.out, fun _ => HE.out, fun _ => rfl⟩
              · obtain rfl : j = k := by omega
                have HE := Lib.hid (show ¬ hit2 s p i j from fun ⟨a', b', h1, h2, h3, h4, h5⟩ => by
                  rw [HA.out] at h1; obtain rfl := Option.some.inj h1
                  rw [HBk.out] at h2; obtain rfl := Option.some.inj h2
                  rcases h5 with h5 | ⟨j', c, hj', hc', h6⟩
                  · rw [HZT.out] at h5; cases h5
                  · exact HNJ.out j' c hj' hc' h6)
                have hjj : ¬ ((j : Int) < j) := by omega
                go_wp2_with fail
                go_roundw
                case rel =>
                  refine ⟨j + 1, by omega, by go_num, fun k' h => ?_, HF.out⟩
                  rcases Nat.lt_or_ge k' j with h' | h'
                  · exact HNK.out k' h'
                  · obtain rfl : k' = j := by omega
                    exact HE.out
                case measure => simp [intOf]; omega
          · obtain rfl : k = i := by omega
            go_wp2_with fail
            go_roundw
            case rel =>
              refine ⟨k + 1, by omega, by go_num, fun i' k' h h2 => ?_, HF.out⟩
              rcases Nat.lt_or_ge i' k with h' | h'
              · exact HNO.out i' k' h' h2
              · obtain rfl : i' = k := by omega
                exact HNK.out k' h2
            case measure => simp [intOf]; omega
      · obtain rfl : i = s.length := by omega
        have HE := Lib.hid (show ¬ hits s p from fun ⟨i', k', h1, h2⟩ => by
          have h3 := h2
          obtain ⟨a, b, h4, _⟩ := h3
          exact HNO.out i' k' (List.getElem?_eq_some_iff.1 h4).1 h1 h2)
        go_wp2_with fail
        go_ret
        exact ⟨false, rfl, HG0.out.trans HF.out, (fun h => by cases h), fun h => absurd h HE.out⟩
end Go.Proofs.Ytalbaopfdejooaa.HullP
