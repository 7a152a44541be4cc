/- Chapter 41: equal slices of points; the reference's Good. -/
import Derived.Test.YtalbaopfdejooaaHullJ
namespace Go.Proofs.Ytalbaopfdejooaa.HullK
open Go.RowKit Base Slices RowsA KernA AreaA HullD HullE HullF HullG HullH HullI HullJ Quiet
set_option linter.unusedVariables false
set_option linter.unusedSimpArgs false

set_option maxRecDepth 100000 in
set_option maxHeartbeats 4000000 in
theorem equal_any (l m : List Pn) (va vb : Value) (w : World) (hl : l.length ≤ 100000) (hm : m.length ≤ 100000) (hva : Sl EPt w va l) (hvb : Sl EPt w vb m) :
    Calls Try.prog 60 #[va, vb] w fun e w' => e = .returned (.bool (decide (l = m))) ∧ Fr Nil w w' := by
  obtain ⟨b, hbb⟩ : ∃ b, decide (l = m) = b := ⟨_, rfl⟩
  rw [hbb]
  have HBB := Lib.hid hbb
  clear hbb
  by_cases hlen : l.length = m.length
  case neg =>
    have HE := Lib.hid (show b = false by rw [← HBB.out]; exact decide_eq_false (fun e => hlen (by rw [e])))
    obtain ⟨A, c, rfl⟩ := hva.shape
    obtain ⟨B, d, rfl⟩ := hvb.shape
    have h1 : ¬ (l.length : Int) = m.length := by omega
    clear hva hvb
    go_enter Try.func60, Try.ntmps60
    go_wp2_with fail
    go_ret
    exact ⟨by rw [HE.out]; rfl, Fr.refl _ _⟩
  by_cases hne : l = []
  · subst hne
    have hm0 : m = [] := List.length_eq_zero_iff.1 (by simpa using hlen.symm)
    subst hm0
    have HE := Lib.hid (show b = true by rw [← HBB.out]; rfl)
    obtain ⟨A, c, rfl⟩ := hva.shape
    obtain ⟨B, d, rfl⟩ := hvb.shape
    simp only [List.length_nil]
    clear hva hvb
    go_enter Try.func60, Try.ntmps60
    go_wp2_with fail
    refine wp_loop_rounds 1 ?_
    rw [rounds_succ]
    go_wp2
    go_ret
    exact ⟨by rw [HE.out]; rfl, by (repeat' (with_reducible first | refine Fr.setCell ?_ (fun hlt => absurd hlt (by dsimp only; omega)) _ | refine Fr.alloc ?_ _ | refine Fr.drewN ?_ _ | refine Fr.drew ?_ | exact Fr.refl _ _))⟩
  · have hne2 : m ≠ [] := fun e => hne (List.length_eq_zero_iff.1 (by rw [hlen, e]; rfl))
    rcases hva with ⟨_, h⟩ | ⟨g, o, cap, rfl, hc, ha, hr⟩
    · exact absurd h hne
    rcases hvb with ⟨_, h⟩ | ⟨g', o', cap', rfl, hc', ha', hr'⟩
    · exact absurd h hne2
    clear hne hne2
    have HLEN := Lib.hid hlen
    rw [← hlen] at hc' ⊢
    clear hlen
    go_enter Try.func60, Try.ntmps60
    go_wp2_with fail
    go_loopw [13] (fun i wr => ∃ k : Nat, k ≤ l.length ∧ i = .int .i64 k ∧ (∀ (j : Nat), j < k → l[j]? = m[j]?) ∧ Fr Nil w wr) (fun i _ => l.length - (intOf i).toNat)
    case atStart => exact ⟨0, by omega, rfl, fun j h => absurd h (by omega), by (repeat' (with_reducible first | refine Fr.setCell ?_ (fun hlt => absurd hlt (by dsimp only; omega)) _ | refine Fr.alloc ?_ _ | refine Fr.drewN ?_ _ | refine Fr.drew ?_ | exact Fr.refl _ _))⟩
    case round =>
      obtain ⟨k, hk, rfl, hi, hf⟩ := hrel
      by_cases hlt : k < l.length
      · obtain ⟨p, hp⟩ : ∃ p, l[k]? = some p := ⟨l[k], List.getElem?_eq_getElem hlt⟩
        obtain ⟨q, hq⟩ : ∃ q, m[k]? = some q := ⟨m[k]'(by rw [← HLEN.out]; exact hlt), List.getElem?_eq_getElem _⟩
        obtain ⟨c0, c1, c2⟩ := pt_at (hr.fr hf ha id) hp
        obtain ⟨d0, d1, d2⟩ := pt_at (hr'.fr hf ha' id) hq
        have hk0 : (0 : Int) ≤ k := by omega
        have hk1 : (k : Int) < l.length := by omega
        have HF := Lib.hid hf
        have HP := Lib.hid hp
        have HQ := Lib.hid hq
        have HI := Lib.hid hi
        clear hf hp hq hi
        obtain ⟨p0, p1, p2⟩ := p
        obtain ⟨q0, q1, q2⟩ := q
        dsimp only at c0 c1 c2 d0 d1 d2
        by_cases e0 : p0 = q0
        · subst e0
          by_cases e1 : p1 = q1
          · subst e1
            by_cases e2 : p2 = q2
            · subst e2
              have HE := Lib.hid (show ∀ (j : Nat), j < k + 1 → l[j]? = m[j]? from fun j hj => by
                rcases Nat.lt_or_ge j k with h | h
                · exact HI.out j h
                · obtain rfl : j = k := by omega
                  rw [HP.out, HQ.out])
              go_wp2_with fail
              go_quiet (fail)
              go_wp2_with fail
              go_roundw
              case rel => exact ⟨k + 1, by omega, by go_num, HE.out, HF.out.drewN _⟩
              case measure => simp [intOf]; omega
            · skip
              have HE := Lib.hid (show b = false by
                rw [← HBB.out]
                refine decide_eq_false (fun e => ?_)
                have h := HP.out
                rw [e, HQ.out] at h
                simp at h
                omega)
              go_wp2_with fail
              go_quiet (fail)
              go_wp2_with fail
              go_ret
              exact ⟨by rw [HE.out]; rfl, HF.out.drewN _⟩
          · skip
            have HE := Lib.hid (show b = false by
              rw [← HBB.out]
              refine decide_eq_false (fun e => ?_)
              have h := HP.out
              rw [e, HQ.out] at h
              simp at h
              omega)
            go_wp2_with fail
            go_quiet (fail)
            go_wp2_with fail
            go_ret
            exact ⟨by rw [HE.out]; rfl, HF.out.drewN _⟩
        · skip
          have HE := Lib.hid (show b = false by
            rw [← HBB.out]
            refine decide_eq_false (fun e => ?_)
            have h := HP.out
            rw [e, HQ.out] at h
            simp at h
            omega)
          go_wp2_with fail
          go_quiet (fail)
          go_wp2_with fail
          go_ret
          exact ⟨by rw [HE.out]; rfl, HF.out.drewN _⟩
      · obtain rfl : k = l.length := by omega
        have HE := Lib.hid (show b = true by
          rw [← HBB.out]
          refine decide_eq_true (List.ext_getElem? fun j => ?_)
          rcases Nat.lt_or_ge j l.length with h | h
          · exact hi j h
          · rw [List.getElem?_eq_none h, List.getElem?_eq_none (by rw [← HLEN.out]; exact h)])
        have HF := Lib.hid hf
        clear hf hi
        go_wp2_with fail
        go_ret
        exact ⟨by rw [HE.out]; rfl, HF.out⟩

set_option maxRecDepth 100000 in
set_option maxHeartbeats 4000000 in
theorem same_any (l m : List Pn) (va vb : Value) (w : World) (hl : l.length ≤ 100000) (hm : m.length ≤ 100000) (hva : Sl EPt w va l) (hvb : Sl EPt w vb m) :
    Calls Try.prog 13 #[va, vb] w fun e w' => e = .returned (.bool (decide (l = m))) ∧ Fr Nil w w' := by
  obtain ⟨b, hbb⟩ : ∃ b, decide (l = m) = b := ⟨_, rfl⟩
  rw [hbb]
  have HBB := Lib.hid hbb
  clear hbb
  by_cases hlen : l.length = m.length
  case neg =>
    have HE := Lib.hid (show b = false by rw [← HBB.out]; exact decide_eq_false (fun e => hlen (by rw [e])))
    obtain ⟨A, c, rfl⟩ := hva.shape
    obtain ⟨B, d, rfl⟩ := hvb.shape
    have h1 : ¬ (l.length : Int) = m.length := by omega
    clear hva hvb
    go_enter Try.func13, Try.ntmps13
    go_wp2_with fail
    go_ret
    exact ⟨by rw [HE.out]; rfl, Fr.refl _ _⟩
  by_cases hne : l = []
  · subst hne
    have hm0 : m = [] := List.length_eq_zero_iff.1 (by simpa using hlen.symm)
    subst hm0
    have HE := Lib.hid (show b = true by rw [← HBB.out]; rfl)
    obtain ⟨A, c, rfl⟩ := hva.shape
    obtain ⟨B, d, rfl⟩ := hvb.shape
    simp only [List.length_nil]
    clear hva hvb
    go_enter Try.func13, Try.ntmps13
    go_wp2_with fail
    refine wp_loop_rounds 1 ?_
    rw [rounds_succ]
    go_wp2
    go_ret
    exact ⟨by rw [HE.out]; rfl, by (repeat' (with_reducible first | refine Fr.setCell ?_ (fun hlt => absurd hlt (by dsimp only; omega)) _ | refine Fr.alloc ?_ _ | refine Fr.drewN ?_ _ | refine Fr.drew ?_ | exact Fr.refl _ _))⟩
  · have hne2 : m ≠ [] := fun e => hne (List.length_eq_zero_iff.1 (by rw [hlen, e]; rfl))
    rcases hva with ⟨_, h⟩ | ⟨g, o, cap, rfl, hc, ha, hr⟩
    · exact absurd h hne
    rcases hvb with ⟨_, h⟩ | ⟨g', o', cap', rfl, hc', ha', hr'⟩
    · exact absurd h hne2
    clear hne hne2
    have HLEN := Lib.hid hlen
    rw [← hlen] at hc' ⊢
    clear hlen
    go_enter Try.func13, Try.ntmps13
    go_wp2_with fail
    go_loopw [5] (fun i wr => ∃ k : Nat, k ≤ l.length ∧ i = .int .i64 k ∧ (∀ (j : Nat), j < k → l[j]? = m[j]?) ∧ Fr Nil w wr) (fun i _ => l.length - (intOf i).toNat)
    case atStart => exact ⟨0, by omega, rfl, fun j h => absurd h (by omega), by (repeat' (with_reducible first | refine Fr.setCell ?_ (fun hlt => absurd hlt (by dsimp only; omega)) _ | refine Fr.alloc ?_ _ | refine Fr.drewN ?_ _ | refine Fr.drew ?_ | exact Fr.refl _ _))⟩
    case round =>
      obtain ⟨k, hk, rfl, hi, hf⟩ := hrel
      by_cases hlt : k < l.length
      · obtain ⟨p, hp⟩ : ∃ p, l[k]? = some p := ⟨l[k], List.getElem?_eq_getElem hlt⟩
        obtain ⟨q, hq⟩ : ∃ q, m[k]? = some q := ⟨m[k]'(by rw [← HLEN.out]; exact hlt), List.getElem?_eq_getElem _⟩
        obtain ⟨c0, c1, c2⟩ := pt_at (hr.fr hf ha id) hp
        obtain ⟨d0, d1, d2⟩ := pt_at (hr'.fr hf ha' id) hq
        have hk0 : (0 : Int) ≤ k := by omega
        have hk1 : (k : Int) < l.length := by omega
        have HF := Lib.hid hf
        have HP := Lib.hid hp
        have HQ := Lib.hid hq
        have HI := Lib.hid hi
        clear hf hp hq hi
        obtain ⟨p0, p1, p2⟩ := p
        obtain ⟨q0, q1, q2⟩ := q
        dsimp only at c0 c1 c2 d0 d1 d2
        by_cases e0 : p0 = q0
        · subst e0
          by_cases e1 : p1 = q1
          · subst e1
            by_cases e2 : p2 = q2
            · subst e2
              have HE := Lib.hid (show ∀ (j : Nat), j < k + 1 → l[j]? = m[j]? from fun j hj => by
                rcases Nat.lt_or_ge j k with h | h
                · exact HI.out j h
                · obtain rfl : j = k := by omega
                  rw [HP.out, HQ.out])
              go_wp2_with fail
              go_quiet (fail)
              go_wp2_with fail
              go_roundw
              case rel => exact ⟨k + 1, by omega, by go_num, HE.out, HF.out.drewN _⟩
              case measure => simp [intOf]; omega
            · skip
              have HE := Lib.hid (show b = false by
                rw [← HBB.out]
                refine decide_eq_false (fun e => ?_)
                have h := HP.out
                rw [e, HQ.out] at h
                simp at h
                omega)
              go_wp2_with fail
              go_quiet (fail)
              go_wp2_with fail
              go_ret
              exact ⟨by rw [HE.out]; rfl, HF.out.drewN _⟩
          · skip
            have HE := Lib.hid (show b = false by
              rw [← HBB.out]
              refine decide_eq_false (fun e => ?_)
              have h := HP.out
              rw [e, HQ.out] at h
              simp at h
              omega)
            go_wp2_with fail
            go_quiet (fail)
            go_wp2_with fail
            go_ret
            exact ⟨by rw [HE.out]; rfl, HF.out.drewN _⟩
        · skip
          have HE := Lib.hid (show b = false by
            rw [← HBB.out]
            refine decide_eq_false (fun e => ?_)
            have h := HP.out
            rw [e, HQ.out] at h
            simp at h
            omega)
          go_wp2_with fail
          go_quiet (fail)
          go_wp2_with fail
          go_ret
          exact ⟨by rw [HE.out]; rfl, HF.out.drewN _⟩
      · obtain rfl : k = l.length := by omega
        have HE := Lib.hid (show b = true by
          rw [← HBB.out]
          refine decide_eq_true (List.ext_getElem? fun j => ?_)
          rcases Nat.lt_or_ge j l.length with h | h
          · exact hi j h
          · rw [List.getElem?_eq_none h, List.getElem?_eq_none (by rw [← HLEN.out]; exact h)])
        have HF := Lib.hid hf
        clear hf hi
        go_wp2_with fail
        go_ret
        exact ⟨by rw [HE.out]; rfl, HF.out⟩


set_option maxRecDepth 100000 in
set_option maxHeartbeats 4000000 in
theorem allgood_any (l : List Pn) (v : Value) (w : World) (hl : l.length ≤ 1000) (hv : Sl EPt w v l) :
    Calls Try.prog 9 #[v] w fun e w' => e = .returned (.bool (l.all gd)) ∧ Fr Nil w w' := by
  obtain ⟨b, hbb⟩ : ∃ b, l.all gd = b := ⟨_, rfl⟩
  rw [hbb]
  have HBB := Lib.hid hbb
  clear hbb
  rcases hv with ⟨rfl, rfl⟩ | ⟨g, o, cap, rfl, hc, ha, hr⟩
  · have HE := Lib.hid (show b = true by rw [← HBB.out]; rfl)
    go_enter Try.func9, Try.ntmps9
    go_wp2_with fail
    refine wp_loop_rounds 1 ?_
    rw [rounds_succ]
    go_wp2
    go_ret
    exact ⟨by rw [HE.out]; rfl, Fr.refl _ _⟩
  · go_enter Try.func9, Try.ntmps9
    go_wp2_with fail
    go_loopw [3] (fun i wr => ∃ (k : Nat), k ≤ l.length ∧ i = .int .i64 k ∧ (∀ (j : Nat) p, j < k → l[j]? = some p → gd p = true) ∧ Fr Nil w wr) (fun i _ => l.length - (intOf i).toNat)
    case atStart => exact ⟨0, by omega, rfl, fun j p h => absurd h (by omega), Fr.refl _ _⟩
    case round =>
      obtain ⟨k, hk, rfl, ho, hf⟩ := hrel
      by_cases hlt : k < l.length
      · obtain ⟨y, hy⟩ : ∃ y, l[k]? = some y := ⟨l[k], List.getElem?_eq_getElem hlt⟩
        obtain ⟨c0, c1, c2⟩ := pt_at (hr.fr hf ha id) hy
        have HF := Lib.hid hf
        have KO := fun W => rgood_any y W
        have HO := Lib.hid ho
        have HY := Lib.hid hy
        have HM := Lib.hid (List.mem_of_getElem? hy)
        clear hf ho hy
        rcases hz : gd y with _ | _
        · have HZ := Lib.hid (show b = false by rw [← HBB.out]; exact List.all_eq_false.2 ⟨y, HM.out, by simp [hz]⟩)
          simp only [hz] at KO
          replace KO := Lib.hid KO
          clear hz
          go_wp2_with fail
          refine (KO.out _).mono ?_
          rintro e w2 ⟨rfl, hfq⟩
          have HF2 := Lib.hid (HF.out.trans hfq)
          clear hfq
          go_wp2_with fail
          go_ret
          exact ⟨by rw [HZ.out]; rfl, HF2.out⟩
        · have HZ := Lib.hid hz
          simp only [hz] at KO
          replace KO := Lib.hid KO
          clear hz
          go_wp2_with fail
          refine (KO.out _).mono ?_
          rintro e w2 ⟨rfl, hfq⟩
          have HF2 := Lib.hid (HF.out.trans hfq)
          clear hfq
          go_wp2_with fail
          go_roundw
          case rel =>
            refine ⟨k + 1, by omega, by go_num, fun j p hj hp => ?_, HF2.out⟩
            rcases Nat.lt_or_ge j k with h | h
            · exact HO.out j p h hp
            · obtain rfl : j = k := by omega
              have e := HY.out
              rw [hp] at e
              obtain rfl := Option.some.inj e
              exact HZ.out
          case measure => simp [intOf]; omega
      · obtain rfl : k = l.length := by omega
        have HE := Lib.hid (show b = true by
          rw [← HBB.out]
          refine List.all_eq_true.2 fun p hp => ?_
          obtain ⟨j, hj, rfl⟩ := List.getElem_of_mem hp
          exact ho j _ hj (List.getElem?_eq_getElem hj))
        have HF := Lib.hid hf
        clear ho hf
        go_wp2_with fail
        go_ret
        exact ⟨by rw [HE.out]; rfl, HF.out⟩
end Go.Proofs.Ytalbaopfdejooaa.HullK
