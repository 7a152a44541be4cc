/- Chapter 5: the walks of the laws TrapCatches, TrapInner, TrapCodes. -/
import Derived.Test.YtendhgnhncnabaaFiveF
namespace Go.Proofs.Ytendhgnhncnabaa.FiveG
open Go.RowKit TrapA TrapB Base FiveA FiveB FiveC FiveD FiveE FiveF
set_option linter.unusedVariables false
set_option linter.unusedSimpArgs false

theorem Doer.slc {w : World} {g cap : Nat} {a : Addr} {l : List St} {done code : Int} (h : Doer w g a cap l done code) : Slc w (some a) l := fun _ => ⟨a, rfl, h.lt, h.lies⟩
theorem Doer.len {w : World} {g cap : Nat} {a : Addr} {l : List St} {done code : Int} (h : Doer w g a cap l done code) : l.length ≤ maxLen := by have := h.few; unfold maxLen; omega

set_option maxHeartbeats 400000 in
theorem catches_walk (l : List St) (A : Option Addr) (cap : Nat) (w : World) (hl : l.length ≤ maxLen) (hw : Slc w A l) :
    Calls Try.prog 3 #[.slice A l.length cap] w fun e w' => e = .returned (.bool true) ∧ Fr Nil w w' := by
  have hmf := mf
  go_enter Try.func3, Try.ntmps3
  go_wp2_with fail
  refine (few_calls l A cap _ hl hw).mono ?_
  rintro e w1 ⟨v, rfl, hf1, hown, hnn⟩
  obtain ⟨b, cap', rfl, hb, hd⟩ := new_doer 0 hown hnn
  go_wp2_with fail
  refine (lives_any _).mono ?_
  rintro e w2 ⟨rfl, hf2⟩
  have hd2 := hd.fr hf2 id id
  have H3 := catch_all hd2 (by omega) (by omega)
  have hf02 : Fr Nil w w2 := ((hf1.alloc _).trans hf2)
  generalize fewL l = L at hown hd hd2 H3
  have hsz := hf1.size
  clear hown hd hf2
  rcases ho : (scan L).1 with _ | ⟨x, c⟩
  all_goals
    rw [ho] at H3
    unfold faultOf at H3
    have HH3 := Lib.hid H3
    clear H3
    go_wp2_with fail
    refine HH3.out.mono ?_
    rintro e w3 ⟨rfl, hf3, hd3⟩
    rw [Int.zero_add] at hd3
    obtain ⟨d0, d1, d2, _, _, _⟩ := hd3.bk.c3
    have hlt3 := hd3.bk.lt
    have hda := fun o => hd3.fr (S := Nil) ((Fr.refl Nil w3).alloc o) id id
    have H4 := fun o => all_calls L (some ⟨b, 0, none⟩) cap' (w3.alloc o) (Doer.len hd3) (Doer.slc (hda o))
    rw [ho] at H4
    unfold faultOf at H4
    generalize (scan L).2 = n at hd3 hda d1 H4
    have HH4 := Lib.hid H4
    have HA := Lib.hid hda
    clear H4 hda ho HH3
    go_wp2_with fail
    refine (HH4.out _).mono ?_
    rintro e w4 ⟨rfl, hf4⟩
    obtain ⟨e0, e1, e2, _, _, _⟩ := ((HA.out _).fr hf4 id id).bk.c3
    have hlt4 := ((HA.out _).fr hf4 id id).bk.lt
    have hb4 := (Bk.new w3 _ _).fr hf4 id
    obtain ⟨g0, g1, _, _⟩ := hb4.c2
    have hlt5 := hb4.lt
    have HF := Lib.hid (((hf02.then hf3 fun i h hi => absurd hi (by omega)).alloc _).trans hf4)
    clear HH4 hf4 hf3
    go_wp2_with fail
    go_ret
    exact ⟨rfl, HF.out.alloc _⟩
end Go.Proofs.Ytendhgnhncnabaa.FiveG
