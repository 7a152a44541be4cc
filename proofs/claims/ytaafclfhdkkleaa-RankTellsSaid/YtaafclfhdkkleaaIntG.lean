/- Chapter 7: the walks of the closures of first and behind, of seek, First, Behind. -/
import Derived.Test.YtaafclfhdkkleaaIntF
namespace Go.Proofs.Ytaafclfhdkkleaa.IntG
open Go.RowKit Base SortA IntB IntC IntD IntE Quiet
set_option linter.unusedVariables false
set_option linter.unusedSimpArgs false

/-- Less, as a value -/
def lessV : Value := .func (.func 30) #[] #[]

theorem first_clo (x v : Pr) (g1 g2 : Nat) (w : World) (h1 : Bk w g1 47 #[lessV]) (h2 : Bk w g2 3 #[.int .i64 v.1]) :
    Calls Try.prog 44 #[.int .i64 x.1, .pointer (some ⟨g1, 0, none⟩), .pointer (some ⟨g2, 0, none⟩)] w fun e w' => e = .returned (.bool (!decide (x.1 < v.1))) ∧ Fr Nil w w' := by
  have L := Lib.hid (fun W => less_any x v W)
  have l1 := h1.lt
  have l2 := h2.lt
  obtain ⟨a0, _⟩ := h1.c1
  obtain ⟨b0, _⟩ := h2.c1
  unfold lessV at a0
  go_enter Try.func44, Try.ntmps44
  go_wp2_with fail
  refine (L.out _).mono ?_
  rintro e w1 ⟨rfl, hf1⟩
  go_wp2_with fail
  go_ret
  exact ⟨rfl, hf1⟩

/-- the closure, as a value -/
def firstV (g1 g2 : Nat) : Value := .func (.func 44) #[] #[.pointer (some ⟨g1, 0, none⟩), .pointer (some ⟨g2, 0, none⟩)]

theorem first_seek (l : List Pr) (v : Pr) (s : Value) (g1 g2 : Nat) (w : World) (hl : l.length ≤ 100000) (ho : Srt l) (hv : Sl w s l) (h1 : Bk w g1 47 #[lessV]) (h2 : Bk w g2 3 #[.int .i64 v.1]) :
    Calls Try.prog 41 #[s, firstV g1 g2] w fun e w' => e = .returned (.int .i64 (below l v.1)) ∧ Fr Nil w w' := by
  unfold firstV
  rcases hv with ⟨rfl, rfl⟩ | ⟨g, o, cap, rfl, hc, ha, hr⟩
  · go_enter Try.func41, Try.ntmps41
    go_wp2_with fail
    refine wp_loop_rounds 1 ?_
    rw [rounds_succ]
    go_wp2
    go_ret
    exact ⟨rfl, by (repeat' (with_reducible first | refine Fr.setCell ?_ (fun hlt => absurd hlt (by dsimp only; omega)) _ | refine Fr.alloc ?_ _ | refine Fr.drewN ?_ _ | refine Fr.drew ?_ | exact Fr.refl _ _))⟩
  · have hq := fun (k : Nat) (x : Pr) (hx : l[k]? = some x) => place (q := fun p => decide (p.1 < v.1)) (l := l) (ho.imp fun hab hb => by simp at hb ⊢; omega) hx
    have HQ := Lib.hid hq
    have H1 := Lib.hid h1
    have H2 := Lib.hid h2
    have HO := Lib.hid ho
    have HL := Lib.hid (below_le l v.1)
    clear hq h1 h2 ho
    go_enter Try.func41, Try.ntmps41
    go_wp2_with fail
    go_loopw [5, 6] (fun lo hi wr => ∃ a b : Nat, a ≤ b ∧ b ≤ l.length ∧ lo = .int .i64 a ∧ hi = .int .i64 b ∧ a ≤ below l v.1 ∧ below l v.1 ≤ b ∧ Fr Nil w wr) (fun lo hi _ => (intOf hi).toNat - (intOf lo).toNat)
    case atStart => exact ⟨0, l.length, by omega, by omega, rfl, rfl, by omega, HL.out, by (repeat' (with_reducible first | refine Fr.setCell ?_ (fun hlt => absurd hlt (by dsimp only; omega)) _ | refine Fr.alloc ?_ _ | refine Fr.drewN ?_ _ | refine Fr.drew ?_ | exact Fr.refl _ _))⟩
    case round =>
      obtain ⟨a, b, hab, hbl, rfl, rfl, hca, hcb, hf⟩ := hrel
      by_cases hlt : a < b
      · obtain ⟨m, hm⟩ : ∃ m : Nat, a + (b - a) / 2 = m := ⟨_, rfl⟩
        have hma : a ≤ m := by omega
        have hmb : m < b := by omega
        have hml : (m : Int) < l.length := by omega
        have hme : (a : Int) + ((b : Int) - a) / 2 = m := by omega
        have hmt : (a : Int) + ((b : Int) - a).tdiv 2 = m := by rw [Int.tdiv_eq_ediv_of_nonneg (by omega)]; exact hme
        obtain ⟨x, hx⟩ : ∃ x, l[m]? = some x := ⟨l[m]'(by omega), List.getElem?_eq_getElem _⟩
        obtain ⟨c0, c1⟩ := (hr.fr hf ha id) m x hx
        have HX := Lib.hid (HQ.out m x hx)
        have HA := Lib.hid (And.intro hca hcb)
        have HF := Lib.hid hf
        have HM := Lib.hid hm
        have KC := Lib.hid (fun W (h : Fr Nil w W) => first_clo x v g1 g2 W (H1.out.fr h id) (H2.out.fr h id))
        clear hx hm hca hcb hf
        have hcases : x.1 < v.1 ∨ ¬ (x.1 < v.1) := Decidable.em _
        rcases hcases with hx | hx
        · have KX := Lib.hid (show m + 1 ≤ below l v.1 from HX.out.1 (decide_eq_true hx))
          simp only [decide_eq_true hx, Bool.not_true] at KC
          clear hx
          go_wp2_with fail
          refine (KC.out _ HF.out).mono ?_
          rintro e w1 ⟨rfl, hf1⟩
          go_wp2_with fail
          go_roundw
          case rel => exact ⟨m + 1, b, by omega, hbl, by go_num, rfl, KX.out, HA.out.2, HF.out.trans hf1⟩
          case measure => simp [intOf]; omega
        · have KX := Lib.hid (show below l v.1 ≤ m from Nat.not_lt.1 fun h => hx (of_decide_eq_true (HX.out.2 h)))
          simp only [decide_eq_false hx, Bool.not_false] at KC
          clear hx
          go_wp2_with fail
          refine (KC.out _ HF.out).mono ?_
          rintro e w1 ⟨rfl, hf1⟩
          go_wp2_with fail
          go_roundw
          case rel => exact ⟨a, m, hma, by omega, rfl, by go_num, HA.out.1, KX.out, HF.out.trans hf1⟩
          case measure => simp [intOf]; omega
      · obtain rfl : a = b := by omega
        have e : below l v.1 = a := by omega
        have E := Lib.hid e
        clear e hca hcb HL HQ
        go_wp2_with fail
        go_ret
        exact ⟨by rw [E.out]; rfl, hf⟩

theorem behind_clo (x v : Pr) (g1 g2 : Nat) (w : World) (h1 : Bk w g1 47 #[lessV]) (h2 : Bk w g2 3 #[.int .i64 v.1]) :
    Calls Try.prog 42 #[.int .i64 x.1, .pointer (some ⟨g1, 0, none⟩), .pointer (some ⟨g2, 0, none⟩)] w fun e w' => e = .returned (.bool (decide (v.1 < x.1))) ∧ Fr Nil w w' := by
  have L := Lib.hid (fun W => less_any v x W)
  have l1 := h1.lt
  have l2 := h2.lt
  obtain ⟨a0, _⟩ := h1.c1
  obtain ⟨b0, _⟩ := h2.c1
  unfold lessV at a0
  go_enter Try.func42, Try.ntmps42
  go_wp2_with fail
  refine (L.out _).mono ?_
  rintro e w1 ⟨rfl, hf1⟩
  go_wp2_with fail
  go_ret
  exact ⟨rfl, hf1⟩

/-- the closure, as a value -/
def behindV (g1 g2 : Nat) : Value := .func (.func 42) #[] #[.pointer (some ⟨g1, 0, none⟩), .pointer (some ⟨g2, 0, none⟩)]

theorem behind_seek (l : List Pr) (v : Pr) (s : Value) (g1 g2 : Nat) (w : World) (hl : l.length ≤ 100000) (ho : Srt l) (hv : Sl w s l) (h1 : Bk w g1 47 #[lessV]) (h2 : Bk w g2 3 #[.int .i64 v.1]) :
    Calls Try.prog 41 #[s, behindV g1 g2] w fun e w' => e = .returned (.int .i64 (upto l v.1)) ∧ Fr Nil w w' := by
  unfold behindV
  rcases hv with ⟨rfl, rfl⟩ | ⟨g, o, cap, rfl, hc, ha, hr⟩
  · go_enter Try.func41, Try.ntmps41
    go_wp2_with fail
    refine wp_loop_rounds 1 ?_
    rw [rounds_succ]
    go_wp2
    go_ret
    exact ⟨rfl, by (repeat' (with_reducible first | refine Fr.setCell ?_ (fun hlt => absurd hlt (by dsimp only; omega)) _ | refine Fr.alloc ?_ _ | refine Fr.drewN ?_ _ | refine Fr.drew ?_ | exact Fr.refl _ _))⟩
  · have hq := fun (k : Nat) (x : Pr) (hx : l[k]? = some x) => place (q := fun p => decide (p.1 ≤ v.1)) (l := l) (ho.imp fun hab hb => by simp at hb ⊢; omega) hx
    have HQ := Lib.hid hq
    have H1 := Lib.hid h1
    have H2 := Lib.hid h2
    have HO := Lib.hid ho
    have HL := Lib.hid (upto_le l v.1)
    clear hq h1 h2 ho
    go_enter Try.func41, Try.ntmps41
    go_wp2_with fail
    go_loopw [5, 6] (fun lo hi wr => ∃ a b : Nat, a ≤ b ∧ b ≤ l.length ∧ lo = .int .i64 a ∧ hi = .int .i64 b ∧ a ≤ upto l v.1 ∧ upto l v.1 ≤ b ∧ Fr Nil w wr) (fun lo hi _ => (intOf hi).toNat - (intOf lo).toNat)
    case atStart => exact ⟨0, l.length, by omega, by omega, rfl, rfl, by omega, HL.out, by (repeat' (with_reducible first | refine Fr.setCell ?_ (fun hlt => absurd hlt (by dsimp only; omega)) _ | refine Fr.alloc ?_ _ | refine Fr.drewN ?_ _ | refine Fr.drew ?_ | exact Fr.refl _ _))⟩
    case round =>
      obtain ⟨a, b, hab, hbl, rfl, rfl, hca, hcb, hf⟩ := hrel
      by_cases hlt : a < b
      · obtain ⟨m, hm⟩ : ∃ m : Nat, a + (b - a) / 2 = m := ⟨_, rfl⟩
        have hma : a ≤ m := by omega
        have hmb : m < b := by omega
        have hml : (m : Int) < l.length := by omega
        have hme : (a : Int) + ((b : Int) - a) / 2 = m := by omega
        have hmt : (a : Int) + ((b : Int) - a).tdiv 2 = m := by rw [Int.tdiv_eq_ediv_of_nonneg (by omega)]; exact hme
        obtain ⟨x, hx⟩ : ∃ x, l[m]? = some x := ⟨l[m]'(by omega), List.getElem?_eq_getElem _⟩
        obtain ⟨c0, c1⟩ := (hr.fr hf ha id) m x hx
        have HX := Lib.hid (HQ.out m x hx)
        have HA := Lib.hid (And.intro hca hcb)
        have HF := Lib.hid hf
        have HM := Lib.hid hm
        have KC := Lib.hid (fun W (h : Fr Nil w W) => behind_clo x v g1 g2 W (H1.out.fr h id) (H2.out.fr h id))
        clear hx hm hca hcb hf
        have hcases : x.1 ≤ v.1 ∨ ¬ (x.1 ≤ v.1) := Decidable.em _
        rcases hcases with hx | hx
        · have KX := Lib.hid (show m + 1 ≤ upto l v.1 from HX.out.1 (decide_eq_true hx))
          simp only [decide_eq_false (show ¬ v.1 < x.1 by omega)] at KC
          clear hx
          go_wp2_with fail
          refine (KC.out _ HF.out).mono ?_
          rintro e w1 ⟨rfl, hf1⟩
          go_wp2_with fail
          go_roundw
          case rel => exact ⟨m + 1, b, by omega, hbl, by go_num, rfl, KX.out, HA.out.2, HF.out.trans hf1⟩
          case measure => simp [intOf]; omega
        · have KX := Lib.hid (show upto l v.1 ≤ m from Nat.not_lt.1 fun h => hx (of_decide_eq_true (HX.out.2 h)))
          simp only [decide_eq_true (show v.1 < x.1 by omega)] at KC
          clear hx
          go_wp2_with fail
          refine (KC.out _ HF.out).mono ?_
          rintro e w1 ⟨rfl, hf1⟩
          go_wp2_with fail
          go_roundw
          case rel => exact ⟨a, m, hma, by omega, rfl, by go_num, HA.out.1, KX.out, HF.out.trans hf1⟩
          case measure => simp [intOf]; omega
      · obtain rfl : a = b := by omega
        have e : upto l v.1 = a := by omega
        have E := Lib.hid e
        clear e hca hcb HL HQ
        go_wp2_with fail
        go_ret
        exact ⟨by rw [E.out]; rfl, hf⟩
end Go.Proofs.Ytaafclfhdkkleaa.IntG
