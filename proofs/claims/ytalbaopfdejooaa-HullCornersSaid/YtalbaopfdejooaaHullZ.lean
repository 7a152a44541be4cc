/- Chapter 41: the law HullCorners. -/
import Derived.Test.YtalbaopfdejooaaHullY
namespace Go.Proofs.Ytalbaopfdejooaa.HullZ
open Go.RowKit Base Slices RowsA KernA KernE AreaA HullC HullD HullE HullF HullG HullH HullI HullJ HullK HullL HullR HullS HullT HullU HullV HullW HullY Quiet
set_option linter.unusedVariables false
set_option linter.unusedSimpArgs false

set_option maxRecDepth 100000 in
set_option maxHeartbeats 16000000 in
theorem corners_any (l0 : List Pn) (va : Value) (w : World) (hva : Come EPt w va l0) :
    Calls Try.prog 4 #[va] w fun e w' => e = .returned (.bool true) ∧ Fr Nil w w' := by
  have VA := Lib.hid hva
  have HF := Lib.hid (Fr.refl Nil w)
  have KLV := Lib.hid (fun W => lives41 W)
  clear hva
  go_enter Try.func4, Try.ntmps4
  go_wp2_with fail
  refine (few14c VA.out).mono ?_
  rintro e w1 ⟨u1, rfl, hf, ho⟩
  have SL := Lib.hid (ho.sl EPt_ok)
  replace HF := Lib.hid (HF.out.trans hf)
  clear hf ho VA
  have hll : (l0.take 14).length ≤ 14 := by rw [List.length_take]; omega
  generalize l0.take 14 = l at *
  go_wp2_with fail
  refine (few14 hll SL.out).mono ?_
  rintro e w2 ⟨u2, rfl, hf, ho⟩
  have S2 := Lib.hid (ho.sl EPt_ok)
  replace SL := Lib.hid (SL.out.fr hf)
  replace HF := Lib.hid (HF.out.trans hf)
  clear hf ho
  rcases bad_or l with hb | hg
  · have ZA := Lib.hid (show l.all gd = false by obtain ⟨p, hp, hq⟩ := hb; exact List.all_eq_false.2 ⟨p, hp, by simp [hq]⟩)
    have BAD := Lib.hid hb
    clear hb
    go_wp2_with fail
    refine (Of_bad l _ _ (by omega) S2.out BAD.out).mono ?_
    rintro e wz1 ⟨rfl, hf⟩
    replace SL := Lib.hid (SL.out.fr hf)
    replace HF := Lib.hid (HF.out.trans hf)
    clear hf
    go_wp2_with fail
    have KG := allgood_any l u1 wz1 (by omega) SL.out
    rw [ZA.out] at KG
    refine (KG).mono ?_
    rintro e wz2 ⟨rfl, hf⟩
    replace SL := Lib.hid (SL.out.fr hf)
    replace HF := Lib.hid (HF.out.trans hf)
    clear hf
    go_wp2_with fail
    refine (KLV.out _).mono ?_
    rintro e wz3 ⟨rfl, hf⟩
    replace SL := Lib.hid (SL.out.fr hf)
    replace HF := Lib.hid (HF.out.trans hf)
    clear hf
    go_wp2_with fail
    go_ret
    exact ⟨rfl, HF.out⟩
  · have ZA := Lib.hid (show l.all gd = true from List.all_eq_true.2 hg)
    have GL := Lib.hid hg
    clear hg
    go_wp2_with fail
    refine (Of_good l _ _ (by omega) S2.out GL.out).mono ?_
    rintro e wz1 ⟨uh, h, rfl, hf, ho, hh⟩
    replace SL := Lib.hid (SL.out.fr hf)
    replace HF := Lib.hid (HF.out.trans hf)
    have SH := Lib.hid (ho.sl EPt_ok)
    clear ho hf
    have HH := Lib.hid hh
    have hhl : h.length ≤ 14 := Nat.le_trans (hull_len hh) hll
    clear hh S2
    go_wp2_with fail
    have KG := allgood_any l u1 wz1 (by omega) SL.out
    rw [ZA.out] at KG
    refine (KG).mono ?_
    rintro e wz2 ⟨rfl, hf⟩
    replace SL := Lib.hid (SL.out.fr hf)
    replace SH := Lib.hid (SH.out.fr hf)
    replace HF := Lib.hid (HF.out.trans hf)
    clear hf
    clear KG
    go_wp2_with fail
    refine (rof_any l _ _ (by omega) (lies GL.out) SL.out).mono ?_
    rintro e wz3 ⟨ur, hr, rfl, hf, ho, hhr⟩
    replace SL := Lib.hid (SL.out.fr hf)
    replace SH := Lib.hid (SH.out.fr hf)
    replace HF := Lib.hid (HF.out.trans hf)
    have SR := Lib.hid (ho.sl EPt_ok)
    clear ho hf
    obtain rfl : hr = h := HullOf.unique hhr HH.out
    clear hhr
    go_wp2_with fail
    have KS := same_any hr hr uh ur wz3 (by omega) (by omega) SH.out SR.out
    rw [decide_eq_true rfl] at KS
    refine (KS).mono ?_
    rintro e wz4 ⟨rfl, hf⟩
    replace SL := Lib.hid (SL.out.fr hf)
    replace SH := Lib.hid (SH.out.fr hf)
    replace SR := Lib.hid (SR.out.fr hf)
    replace HF := Lib.hid (HF.out.trans hf)
    clear hf
    clear KS
    go_wp2_with fail
    refine (few20 (by omega) SH.out).mono ?_
    rintro e wz5 ⟨u5, rfl, hf, ho⟩
    replace SL := Lib.hid (SL.out.fr hf)
    replace SH := Lib.hid (SH.out.fr hf)
    replace SR := Lib.hid (SR.out.fr hf)
    replace HF := Lib.hid (HF.out.trans hf)
    have S5 := Lib.hid (ho.sl EPt_ok)
    clear ho hf
    have HCK := Lib.hid (show chk hr = true from chk_iff.2 ⟨fun p hp => GL.out p (hull_sub HH.out p hp), hull_hull HH.out⟩)
    go_wp2_with fail
    have KC := Check_any hr u5 wz5 (by omega) S5.out
    rw [HCK.out] at KC
    refine (KC).mono ?_
    rintro e wz6 ⟨rfl, hf⟩
    replace SL := Lib.hid (SL.out.fr hf)
    replace SH := Lib.hid (SH.out.fr hf)
    replace SR := Lib.hid (SR.out.fr hf)
    replace S5 := Lib.hid (S5.out.fr hf)
    replace HF := Lib.hid (HF.out.trans hf)
    clear hf
    clear KC
    go_wp2_with fail
    go_loopw [5] (fun i wr => ∃ k : Nat, k ≤ l.length ∧ i = .int .i64 k ∧ Sl EPt wr u1 l ∧ Sl EPt wr uh hr ∧ Fr Nil w wr) (fun i _ => l.length - (intOf i).toNat)
    case atStart => exact ⟨0, by omega, rfl, SL.out, SH.out, HF.out⟩
    case round =>
      obtain ⟨k, hk, rfl, hsl, hsh, hf⟩ := hrel
      replace SL := Lib.hid hsl
      replace SH := Lib.hid hsh
      replace HF := Lib.hid hf
      by_cases hlt : k < l.length
      · rcases hsl with ⟨_, e⟩ | ⟨g, o, cap, rfl, hc, ha, hr0⟩
        · rw [e] at hlt; simp at hlt
        obtain ⟨x, hx⟩ : ∃ x, l[k]? = some x := ⟨l[k], List.getElem?_eq_getElem hlt⟩
        obtain ⟨c0, c1, c2⟩ := pt_at hr0 hx
        have HR0 := Lib.hid hr0
        have HX := Lib.hid hx
        have hxm := List.mem_of_getElem? hx
        have KH := Lib.hid (fun W u (h : Sl EPt W u hr) => Has_yes hr x u W (by omega) h (GL.out x hxm) HCK.out)
        rw [inH_all HH.out (fun y hy => gd_lie (GL.out y hy)) hxm] at KH
        have KF := Lib.hid (fun W (h : Sl EPt W uh hr) => few20 (by omega) h)
        have e0 : (0 : Int) ≤ k := by omega
        have e1 : (k : Int) < l.length := by omega
        clear hsh hf hr0 hx hxm
        go_wp2_with fail
        go_region_held3 (fun w' => w'.cell? ⟨g, o + k * 3, none⟩ = some (.int .i64 x.1) ∧ w'.cell? ⟨g, o + k * 3 + 1, none⟩ = some (.int .i64 x.2.1) ∧ w'.cell? ⟨g, o + k * 3 + 2, none⟩ = some (.int .i64 x.2.2)) (first | (go_keep; done))
          (first | (go_at_call 8; (with_reducible refine (KF.out _ (SH.out.fr (by (repeat' (with_reducible first | refine Fr.setCell ?_ (fun hlt => absurd hlt (by dsimp only; omega)) _ | refine Fr.alloc ?_ _ | refine Fr.drewN ?_ _ | refine Fr.drew ?_ | exact Fr.refl _ _))))).mono ?_); rintro e wa ⟨ua, rfl, hfa, hoa⟩; have F1 : Fr Nil wr wa := Fr.trans (by (repeat' (with_reducible first | refine Fr.setCell ?_ (fun hlt => absurd hlt (by dsimp only; omega)) _ | refine Fr.alloc ?_ _ | refine Fr.drewN ?_ _ | refine Fr.drew ?_ | exact Fr.refl _ _))) hfa; have z := pt_at (HR0.out.fr F1 ha id) HX.out) | (go_at_call 16; (with_reducible refine (KH.out _ _ (hoa.sl EPt_ok)).mono ?_); rintro e wb ⟨rfl, hfb⟩; have F2 : Fr Nil wr wb := F1.trans hfb; have z := pt_at (HR0.out.fr F2 ha id) HX.out))
        all_goals go_wp2_with fail
        all_goals
          go_roundw
          case rel => exact ⟨k + 1, by omega, by go_num, SL.out.fr F2, SH.out.fr F2, HF.out.trans F2⟩
          case measure => simp [intOf]; omega
      · obtain rfl : k = l.length := by omega
        obtain ⟨A, c, rfl⟩ := hsl.shape
        clear hsl hsh hf
        go_wp2_with fail
        refine (KLV.out _).mono ?_
        rintro e w9 ⟨rfl, hf⟩
        replace HF := Lib.hid (HF.out.trans hf)
        go_wp2_with fail
        go_ret
        exact ⟨rfl, HF.out⟩
end Go.Proofs.Ytalbaopfdejooaa.HullZ
