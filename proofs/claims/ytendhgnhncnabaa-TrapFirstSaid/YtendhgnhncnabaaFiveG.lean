/- Chapter 5: the walks of the laws TrapCatches, TrapInner, TrapCodes. -/
import Derived.Test.YtendhgnhncnabaaFiveF
namespace Go.Proofs.Ytendhgnhncnabaa.FiveG
open Go.RowKit TrapA TrapB Base FiveA FiveB FiveC FiveD FiveE FiveF
set_option linter.unusedVariables false
set_option linter.unusedSimpArgs false

theorem Doer.slc {w : World} {g cap : Nat} {a : Addr} {l : List St} {done code : Int} (h : Doer w g a cap l done code) : Slc w (some a) l := fun _ => ⟨a, rfl, h.lt, h.lies⟩
theorem Doer.len {w : World} {g cap : Nat} {a : Addr} {l : List St} {done code : Int} (h : Doer w g a cap l done code) : l.length ≤ maxLen := by have := h.few; unfold maxLen; omega

set_option maxHeartbeats 400000 in
theorem catches_walk (l : List St) (A : Option Addr) (cap : Nat) (w : World) (hl : l.length ≤ maxLen) (hw : Slc w A l) :
    Calls Try.prog 3 #[.slice A l.length cap] w fun e w' => e = .returned (.bool true) ∧ Fr Nil w w' := by
  have hmf := mf
  go_enter Try.func3, Try.ntmps3
  go_wp2_with fail
  refine (few_calls l A cap _ hl hw).mono ?_
  rintro e w1 ⟨v, rfl, hf1, hown, hnn⟩
  obtain ⟨b, cap', rfl, hb, hd⟩ := new_doer 0 hown hnn
  go_wp2_with fail
  refine (lives_any _).mono ?_
  rintro e w2 ⟨rfl, hf2⟩
  have hd2 := hd.fr hf2 id id
  have H3 := catch_all hd2 (by omega) (by omega)
  have hf02 : Fr Nil w w2 := ((hf1.alloc _).trans hf2)
  generalize fewL l = L at hown hd hd2 H3
  have hsz := hf1.size
  clear hown hd hf2
  rcases ho : (scan L).1 with _ | ⟨x, c⟩
  all_goals
    rw [ho] at H3
    unfold faultOf at H3
    have HH3 := Lib.hid H3
    clear H3
    go_wp2_with fail
    refine HH3.out.mono ?_
    rintro e w3 ⟨rfl, hf3, hd3⟩
    rw [Int.zero_add] at hd3
    obtain ⟨d0, d1, d2, _, _, _⟩ := hd3.bk.c3
    have hlt3 := hd3.bk.lt
    have hda := fun o => hd3.fr (S := Nil) ((Fr.refl Nil w3).alloc o) id id
    have H4 := fun o => all_calls L (some ⟨b, 0, none⟩) cap' (w3.alloc o) (Doer.len hd3) (Doer.slc (hda o))
    rw [ho] at H4
    unfold faultOf at H4
    generalize (scan L).2 = n at hd3 hda d1 H4
    have HH4 := Lib.hid H4
    have HA := Lib.hid hda
    clear H4 hda ho HH3
    go_wp2_with fail
    refine (HH4.out _).mono ?_
    rintro e w4 ⟨rfl, hf4⟩
    obtain ⟨e0, e1, e2, _, _, _⟩ := ((HA.out _).fr hf4 id id).bk.c3
    have hlt4 := ((HA.out _).fr hf4 id id).bk.lt
    have hb4 := (Bk.new w3 _ _).fr hf4 id
    obtain ⟨g0, g1, _, _⟩ := hb4.c2
    have hlt5 := hb4.lt
    have HF := Lib.hid (((hf02.then hf3 fun i h hi => absurd hi (by omega)).alloc _).trans hf4)
    clear HH4 hf4 hf3
    go_wp2_with fail
    go_ret
    exact ⟨rfl, HF.out.alloc _⟩

set_option maxHeartbeats 400000 in
theorem inner_walk (l : List St) (A : Option Addr) (cap : Nat) (w : World) (hl : l.length ≤ maxLen) (hw : Slc w A l) :
    Calls Try.prog 4 #[.slice A l.length cap] w fun e w' => e = .returned (.bool true) ∧ Fr Nil w w' := by
  have hmf := mf
  go_enter Try.func4, Try.ntmps4
  go_wp2_with fail
  refine (few_calls l A cap _ hl hw).mono ?_
  rintro e w1 ⟨v, rfl, hf1, hown, hnn⟩
  obtain ⟨b, cap', rfl, hb, hd⟩ := new_doer 0 hown hnn
  go_wp2_with fail
  refine (lives_any _).mono ?_
  rintro e w2 ⟨rfl, hf2⟩
  have hd2 := hd.fr hf2 id id
  have H3 := catch_inner hd2 (by omega) (by omega)
  have hf02 : Fr Nil w w2 := ((hf1.alloc _).trans hf2)
  generalize fewL l = L at hown hd hd2 H3
  have hsz := hf1.size
  clear hown hd hf2
  have HH3 := Lib.hid H3
  clear H3
  go_wp2_with fail
  refine HH3.out.mono ?_
  rintro e w3 ⟨rfl, hf3, hd3⟩
  rw [Int.zero_add] at hd3
  obtain ⟨d0, d1, d2, _, _, _⟩ := hd3.bk.c3
  have hlt3 := hd3.bk.lt
  have hda := fun o => hd3.fr (S := Nil) ((Fr.refl Nil w3).alloc o) id id
  have H4 := fun o => all_calls L (some ⟨b, 0, none⟩) cap' (w3.alloc o) (Doer.len hd3) (Doer.slc (hda o))
  generalize (scan L).2 = n at hd3 hda d1 H4
  generalize (scan L).1 = o at H4
  have HA := Lib.hid hda
  clear hda HH3
  rcases o with _ | ⟨x, c⟩
  all_goals
    unfold faultOf at H4
    have HH4 := Lib.hid H4
    clear H4
    go_wp2_with fail
    refine (HH4.out _).mono ?_
    rintro e w4 ⟨rfl, hf4⟩
    obtain ⟨e0, e1, e2, _, _, _⟩ := ((HA.out _).fr hf4 id id).bk.c3
    have hlt4 := ((HA.out _).fr hf4 id id).bk.lt
    have hb4 := (Bk.new w3 _ _).fr hf4 id
    obtain ⟨g0, g1, _, _⟩ := hb4.c2
    have hlt5 := hb4.lt
    have HF := Lib.hid (((hf02.then hf3 fun i h hi => absurd hi (by omega)).alloc _).trans hf4)
    clear HH4 hf4 hf3
    go_wp2_with fail
    go_ret
    exact ⟨rfl, HF.out.alloc _⟩

set_option maxHeartbeats 400000 in
theorem codes_walk (l : List St) (A : Option Addr) (cap : Nat) (code : Int) (w : World) (hl : l.length ≤ maxLen) (hw : Slc w A l) :
    Calls Try.prog 6 #[.slice A l.length cap, .int .i64 code] w fun e w' => e = .returned (.bool true) ∧ Fr Nil w w' := by
  have hmf := mf
  go_enter Try.func6, Try.ntmps6
  go_wp2_with fail
  refine (few_calls l A cap _ hl hw).mono ?_
  rintro e w1 ⟨v, rfl, hf1, hown, hnn⟩
  obtain ⟨b, cap', rfl, hb, hd⟩ := new_doer code hown hnn
  go_wp2_with fail
  refine (lives_any _).mono ?_
  rintro e w2 ⟨rfl, hf2⟩
  have hd2 := hd.fr hf2 id id
  have hf02 : Fr Nil w w2 := ((hf1.alloc _).trans hf2)
  generalize fewL l = L at hown hd hd2
  have hsz := hf1.size
  clear hown hd hf2
  obtain ⟨d0, d1, d2, _, _, _⟩ := hd2.bk.c3
  have hlt2 := hd2.bk.lt
  have H3 := all_calls L (some ⟨b, 0, none⟩) cap' w2 (Doer.len hd2) (Doer.slc hd2)
  rcases ho : (scan L).1 with _ | ⟨x, c⟩
  all_goals
    rw [ho] at H3
    unfold faultOf at H3
    have HH3 := Lib.hid H3
    clear H3
    have HO := Lib.hid ho
    clear ho
    go_wp2_with fail
    refine HH3.out.mono ?_
    rintro e w3 ⟨rfl, hf3⟩
    have hd3 := fun o => (hd2.fr hf3 id id).fr (S := Nil) ((Fr.refl Nil w3).alloc o) id id
    have H5 := fun o => Code_coded (hd3 o) (by omega) (by omega)
    rw [HO.out, Int.zero_add] at H5
    simp only [Option.map_some, Option.map_none, Option.getD_some, Option.getD_none] at H5
    have HH5 := Lib.hid H5
    clear H5 hd3 HH3
    go_wp2_with fail
    refine (HH5.out _).mono ?_
    rintro e w4 ⟨rfl, hf4, hd4⟩
    have H6 := Value_coded hd4 (by omega) (by have := scan_le L; have := hd4.few; omega)
    rw [HO.out] at H6
    simp only [Option.map_some, Option.map_none, Option.getD_some, Option.getD_none, Option.isSome_some, Option.isSome_none, if_true, if_false, Bool.false_eq_true] at H6
    have HH6 := Lib.hid H6
    clear H6 HH5
    have hb4 := (Bk.new w3 _ _).fr hf4 (fun h => by have := hf3.size; omega)
    go_wp2_with fail
    refine HH6.out.mono ?_
    rintro e w5 ⟨rfl, hf5, hd5⟩
    have hb5 := hb4.fr hf5 (fun h => by have := hf3.size; omega)
    obtain ⟨g0, g1, _, _⟩ := hb5.c2
    have hlt5 := hb5.lt
    have HF := Lib.hid ((((hf02.trans hf3).alloc _).then hf4 fun i h hi => absurd hi (by omega)).then hf5 fun i h hi => absurd hi (by omega))
    clear hd4 hd5 HH6 hf4 hf5 hb4 hb5
    go_wp2_with fail
    go_ret
    exact ⟨rfl, HF.out⟩
end Go.Proofs.Ytendhgnhncnabaa.FiveG
