/- Chapter 5: the walks of doer's methods: all, coded, inner. -/
import Derived.Test.YtendhgnhncnabaaFiveD
import Derived.Test.YtendhgnhncnabaaTrapC
namespace Go.Proofs.Ytendhgnhncnabaa.FiveE
open Go.RowKit TrapA TrapB Base FiveA FiveB FiveC FiveD
set_option linter.unusedVariables false
set_option linter.unusedSimpArgs false

def endOf : Option (Int × Int) → Ending
  | some (x, c) => .panicked [fault x c]
  | none => .returned (.tuple #[])

set_option maxHeartbeats 400000 in
theorem doall (l : List St) (a : Addr) (cap g : Nat) (done code : Int) (w : World) (hl : l.length ≤ 20) (hs : ∀ s ∈ l, Small s) (hw : Lies w a l) (ha : a.block < w.heap.size) (hag : a.block ≠ g) (hd0 : 0 ≤ done) (hd : done < 100000)
    (hb : Bk w g 27 #[.slice (some a) l.length cap, .int .i64 done, .int .i64 code]) :
    Calls Try.prog 11 #[.pointer (some ⟨g, 0, none⟩)] w fun e w' => e = endOf (scan l).1 ∧ Fr (· = g) w w' ∧ Bk w' g 27 #[.slice (some a) l.length cap, .int .i64 (done + (scan l).2), .int .i64 code] := by
  have HSM := Lib.hid hs
  clear hs
  have hl' : l.length ≤ 9223372036854775807 := by omega
  go_enter Try.func11, Try.ntmps11
  go_wp2_with fail
  go_loopw [2] (fun i wr => ∃ k : Nat, k ≤ l.length ∧ i = .int .i64 k ∧ (∀ i x, i < k → l[i]? = some x → thrown x = none) ∧ Bk wr g 27 #[.slice (some a) l.length cap, .int .i64 (done + k), .int .i64 code] ∧ Fr (· = g) w wr) (fun i _ => l.length - (intOf i).toNat)
  case atStart => exact ⟨0, by omega, rfl, fun i x hi => absurd hi (by omega), by simpa using hb, Fr.refl _ _⟩
  case round =>
    obtain ⟨k, hk, rfl, hall, hbk, hfr⟩ := hrel
    have HALL := Lib.hid hall
    clear hall
    obtain ⟨b0, b1, b2, f0, f1, f2⟩ := hbk.c3
    have hlt0 := hbk.lt
    by_cases hlt : k < l.length
    · obtain ⟨s, hs⟩ : ∃ s, l[k]? = some s := ⟨l[k], List.getElem?_eq_getElem hlt⟩
      obtain ⟨c0, c1, c2, c3, c4⟩ := (hw.fr hfr ha hag) k s hs
      have HS := Lib.hid hs
      have HM := Lib.hid (HSM.out s (List.mem_of_getElem? hs))
      clear hs
      rcases ht : thrown s with _ | ⟨x, c⟩
      · have HTT := Lib.hid ht
        have HO := Lib.hid (one_ok s g (.slice (some a) l.length cap) (done + k) code wr hbk HM.out (by omega) (by omega) ht)
        clear ht
        unfold St.agg at HO
        go_wp2_with (go_at_call 21; refine HO.out.mono ?_; rintro e w1 ⟨rfl, hf1, hb1⟩; obtain ⟨d0, d1, d2, g0, g1, g2⟩ := hb1.c3)
        go_roundw
        case rel =>
          refine ⟨k + 1, by omega, by go_num, fun i x hi hx => ?_, ?_, (hfr.trans hf1).setCell (p := ⟨g, 1, none⟩) (fun _ => rfl) _⟩
          · rcases Nat.lt_or_ge i k with h | h
            · exact HALL.out i x h hx
            · obtain rfl : i = k := by omega
              rw [HS.out] at hx
              cases hx
              exact HTT.out
          · have hb2 := hb1.put 1 (.int .i64 (done + ↑k + 1))
            have e1 : done + ((k + 1 : Nat) : Int) = done + ↑k + 1 := by omega
            rw [e1]
            exact hb2
        case measure => simp [intOf]; omega
      · have HX := Lib.hid (scan_stop HS.out ht HALL.out)
        have HO := Lib.hid (one_bad s g (.slice (some a) l.length cap) (done + k) code x c wr hbk HM.out ht)
        clear ht
        unfold St.agg at HO
        go_wp2_with (go_at_call 21; refine HO.out.mono ?_; rintro e w1 ⟨rfl, hf1⟩)
        refine ⟨rfl, ?_⟩
        rw [HX.out]
        exact ⟨rfl, hfr.trans hf1.of_nil, hbk.fr hf1 id⟩
    · obtain rfl : k = l.length := by omega
      have HX := Lib.hid (scan_done HALL.out)
      go_wp2
      go_end0
      rw [HX.out]
      exact ⟨rfl, hfr, hbk⟩

/-- A doer in memory: its steps, what it has done, its code. -/
structure Doer (w : World) (g : Nat) (a : Addr) (cap : Nat) (l : List St) (done code : Int) : Prop where
  bk : Bk w g 27 #[.slice (some a) l.length cap, .int .i64 done, .int .i64 code]
  lies : Lies w a l
  lt : a.block < w.heap.size
  ne : a.block ≠ g
  few : l.length ≤ 20
  small : ∀ s ∈ l, Small s

section
variable {w w' : World} {B g cap : Nat} {a : Addr} {l : List St} {done code : Int} {S : Nat → Prop} {F : FuncId}

theorem Doer.fr (h : Doer w g a cap l done code) (hf : Fr S w w') (hg : ¬ S g) (ha : ¬ S a.block) : Doer w' g a cap l done code :=
  ⟨h.bk.fr hf hg, h.lies.fr hf h.lt ha, Nat.lt_of_lt_of_le h.lt hf.size, h.ne, h.few, h.small⟩

theorem Doer.below (h : Doer w g a cap l done code) (hf : Below B w w') (hg : g < B) (ha : a.block < B) : Doer w' g a cap l done code :=
  h.fr (Fr.of_below (S := fun k => B ≤ k) hf fun k h1 _ => h1) (by omega) (by omega)

theorem all_doer (h : Doer w g a cap l done code) (hd0 : 0 ≤ done) (hd : done < 100000) :
    Calls Try.prog 11 #[.pointer (some ⟨g, 0, none⟩)] w fun e w' => e = endOf (scan l).1 ∧ Fr (· = g) w w' ∧ Doer w' g a cap l (done + (scan l).2) code :=
  (doall l a cap g done code w h.few h.small h.lies h.lt h.ne hd0 hd h.bk).mono fun e w' ⟨he, hf, hb'⟩ => ⟨he, hf, ⟨hb', h.lies.fr hf h.lt h.ne, Nat.lt_of_lt_of_le h.lt hf.size, h.ne, h.few, h.small⟩⟩

theorem enters_all : Enters 11 := fun args w => by simp [go_sem]
theorem enters_coded : Enters 17 := fun args w => by simp [go_sem]
theorem enters_inner : Enters 13 := fun args w => by simp [go_sem]

/-- what coded ends with -/
def codeOf (code : Int) : Option (Int × Int) → Ending
  | some (x, c) => .panicked [fault x c]
  | none => .returned (.int .i64 code)

theorem coded_doer (h : Doer w g a cap l done code) (hd0 : 0 ≤ done) (hd : done < 100000) :
    Calls Try.prog 17 #[.pointer (some ⟨g, 0, none⟩)] w fun e w' => e = codeOf code (scan l).1 ∧ Fr (· = g) w w' ∧ Doer w' g a cap l (done + (scan l).2) code := by
  have H := all_doer h hd0 hd
  rcases hx : (scan l).1 with _ | ⟨x, c⟩
  · rw [hx] at H
    have HH := Lib.hid H
    clear H hx
    unfold endOf at HH
    go_enter Try.func17, Try.ntmps17
    go_wp2_with (go_at_call 11; refine HH.out.mono ?_; rintro e w1 ⟨rfl, hf1, hd1⟩; obtain ⟨d0, d1, d2, _, _, _⟩ := hd1.bk.c3)
    go_ret
    exact ⟨rfl, hf1, hd1⟩
  · rw [hx] at H
    have HH := Lib.hid H
    clear H hx
    unfold endOf at HH
    go_enter Try.func17, Try.ntmps17
    go_wp2_with (go_at_call 11; refine HH.out.mono ?_; rintro e w1 ⟨rfl, hf1, hd1⟩)
    exact ⟨rfl, rfl, hf1, hd1⟩

theorem runs_all (h : Doer w g a cap l done code) (hd0 : 0 ≤ done) (hd : done < 100000) :
    Runs 11 (#[.pointer (some ⟨g, 0, none⟩)] ++ #[]) w (· = g) (endOf (scan l).1) (fun W => Doer W g a cap l (done + (scan l).2) code) :=
  fun W hW => all_doer (h.fr hW id id) hd0 hd

theorem runs_coded (h : Doer w g a cap l done code) (hd0 : 0 ≤ done) (hd : done < 100000) :
    Runs 17 (#[.pointer (some ⟨g, 0, none⟩)] ++ #[]) w (· = g) (codeOf code (scan l).1) (fun W => Doer W g a cap l (done + (scan l).2) code) :=
  fun W hW => coded_doer (h.fr hW id id) hd0 hd

/-- Catch of all -/
theorem catch_all (h : Doer w g a cap l done code) (hd0 : 0 ≤ done) (hd : done < 100000) :
    Calls Try.prog 10 #[.func (.func 11) #[.pointer (some ⟨g, 0, none⟩)] #[]] w fun e w' => e = .returned (.tuple #[faultOf (scan l).1, .bool (scan l).1.isSome]) ∧ Fr (· = g) w w' ∧ Doer w' g a cap l (done + (scan l).2) code := by
  have H := runs_all h hd0 hd
  have hS : ∀ k, k = g → k < w.heap.size := fun k hk => by rw [hk]; exact h.bk.lt
  have hQ : ∀ x y, Below w.heap.size x y → Doer x g a cap l (done + (scan l).2) code → Doer y g a cap l (done + (scan l).2) code := fun x y hb hq => hq.below hb h.bk.lt h.lt
  generalize done + ((scan l).2 : Int) = d at H hQ ⊢
  generalize (scan l).1 = o at H ⊢
  rcases o with _ | ⟨x, c⟩
  · exact Catch_ret hS hQ enters_all H
  · exact Catch_fault hS hQ enters_all H

/-- Code of coded -/
theorem code_coded (h : Doer w g a cap l done code) (hd0 : 0 ≤ done) (hd : done < 100000) :
    Calls Try.prog 25 #[.func (.func 17) #[.pointer (some ⟨g, 0, none⟩)] #[]] w fun e w' => e = .returned (.int .i64 (((scan l).1.map (·.2)).getD code)) ∧ Fr (· = g) w w' ∧ Doer w' g a cap l (done + (scan l).2) code := by
  have H := runs_coded h hd0 hd
  have hS : ∀ k, k = g → k < w.heap.size := fun k hk => by rw [hk]; exact h.bk.lt
  have hQ : ∀ x y, Below w.heap.size x y → Doer x g a cap l (done + (scan l).2) code → Doer y g a cap l (done + (scan l).2) code := fun x y hb hq => hq.below hb h.bk.lt h.lt
  generalize done + ((scan l).2 : Int) = d at H hQ ⊢
  generalize (scan l).1 = o at H ⊢
  rcases o with _ | ⟨x, c⟩
  · exact TrapC.code_ret hS hQ enters_coded H
  · exact TrapC.code_fault hS hQ enters_coded H

theorem Code_coded (h : Doer w g a cap l done code) (hd0 : 0 ≤ done) (hd : done < 100000) :
    Calls Try.prog 16 #[.func (.func 17) #[.pointer (some ⟨g, 0, none⟩)] #[]] w fun e w' => e = .returned (.int .i64 (((scan l).1.map (·.2)).getD code)) ∧ Fr (· = g) w w' ∧ Doer w' g a cap l (done + (scan l).2) code :=
  TrapC.Code_of (code_coded h hd0 hd)

/-- Value of coded -/
theorem Value_coded (h : Doer w g a cap l done code) (hd0 : 0 ≤ done) (hd : done < 100000) :
    Calls Try.prog 18 #[.func (.func 17) #[.pointer (some ⟨g, 0, none⟩)] #[]] w fun e w' => e = .returned (.tuple #[.int .i64 (if (scan l).1.isSome then 0 else code), .int .i64 (((scan l).1.map (·.2)).getD 0)]) ∧ Fr (· = g) w w' ∧ Doer w' g a cap l (done + (scan l).2) code := by
  have H := runs_coded h hd0 hd
  have hS : ∀ k, k = g → k < w.heap.size := fun k hk => by rw [hk]; exact h.bk.lt
  have hQ : ∀ x y, Below w.heap.size x y → Doer x g a cap l (done + (scan l).2) code → Doer y g a cap l (done + (scan l).2) code := fun x y hb hq => hq.below hb h.bk.lt h.lt
  generalize done + ((scan l).2 : Int) = d at H hQ ⊢
  generalize (scan l).1 = o at H ⊢
  rcases o with _ | ⟨x, c⟩
  · exact TrapDErr.Value_ret hS hQ enters_coded H
  · exact TrapDErr.Value_fault hS hQ enters_coded H

/-- what is caught inside is not caught outside -/
theorem inner_doer (h : Doer w g a cap l done code) (hd0 : 0 ≤ done) (hd : done < 100000) :
    Calls Try.prog 13 #[.pointer (some ⟨g, 0, none⟩)] w fun e w' => e = .returned (.tuple #[]) ∧ Fr (· = g) w w' ∧ Doer w' g a cap l (done + (scan l).2) code := by
  have hmf : ∀ (fn : Fn) (first cap : Array Value) (w : World), (Instr.makeFunc fn first cap).run Try.prog w = .ok (.func fn first cap) w := fun _ _ _ _ => rfl
  have H := Lib.hid (catch_all h hd0 hd)
  clear h
  go_enter Try.func13, Try.ntmps13
  go_wp2_with (go_at_call 10; refine H.out.mono ?_; rintro e w1 ⟨rfl, hf1, hd1⟩)
  go_end0
  exact ⟨rfl, hf1, hd1⟩

theorem catch_inner (h : Doer w g a cap l done code) (hd0 : 0 ≤ done) (hd : done < 100000) :
    Calls Try.prog 10 #[.func (.func 13) #[.pointer (some ⟨g, 0, none⟩)] #[]] w fun e w' => e = .returned (.tuple #[.agg #[.int .i64 0, .int .i64 0], .bool false]) ∧ Fr (· = g) w w' ∧ Doer w' g a cap l (done + (scan l).2) code :=
  Catch_ret (fun k hk => by rw [hk]; exact h.bk.lt) (fun x y hb hq => hq.below hb h.bk.lt h.lt) enters_inner (fun W hW => inner_doer (h.fr hW id id) hd0 hd)
end
end Go.Proofs.Ytendhgnhncnabaa.FiveE
