/- Chapter 5: the walk of the law TrapMust at no list; and what lies in memory of a list of ints that comes in. -/
import Derived.Test.YtendhgnhncnabaaFiveJ
import Derived.Test.YtendhgnhncnabaaArgs
namespace Go.Proofs.Ytendhgnhncnabaa.FiveK
open Go.RowKit TrapA TrapB Base FiveA FiveB FiveC FiveD FiveE FiveF FiveI FiveJ Go.ChangeShapes Go.WideShapes Go.ChangeAt Go.Deep
set_option linter.unusedVariables false
set_option linter.unusedSimpArgs false

set_option maxHeartbeats 1000000 in
theorem must_nil (v c : Int) (cap : Nat) (w : World) :
    Calls Try.prog 5 #[.int .i64 v, .int .i64 c, .slice none 0 cap] w fun e w' => e = .returned (.bool true) ∧ Fr Nil w w' := by
  have hmf := mf
  go_enter Try.func5, Try.ntmps5
  go_wp2_with fail
  refine (lives_any _).mono ?_
  rintro e w2 ⟨rfl, hf2⟩
  have hb2 : Bk w2 (w.heap.size + 1) 39 #[.int .i64 v, .int .i64 c, .slice (some ⟨w.heap.size, 0, none⟩) 0 0, .int .i64 v, .int .i64 v] := by
    have := (Bk.new (w.alloc (.cells #[] 3)) 39 #[.int .i64 v, .int .i64 c, .slice (some ⟨w.heap.size, 0, none⟩) 0 0, .int .i64 v, .int .i64 v]).fr hf2 id
    simpa using this
  have HT := Lib.hid (catch_take hb2)
  have hf02 : Fr Nil w w2 := (((Fr.refl Nil w).alloc _).alloc _).trans hf2
  have hb2l := hb2.lt
  clear hf2 hb2
  have hcs : (c = 0) ∨ (c != 0) = true := by
    by_cases h : c = 0
    · exact Or.inl h
    · exact Or.inr (by simpa using h)
  rcases hcs with rfl | hc
  all_goals
    go_wp2_with fail
    refine HT.out.mono ?_
    rintro e w3 ⟨rfl, hf3, hb3⟩
    obtain ⟨c0, c1, c2, c3, c4, f0, f1, f2, f3, f4⟩ := hb3.c5
    have hlt3 := hb3.lt
    have hf03 : Fr Nil w w3 := hf02.then hf3 fun i h hi => absurd hi (by omega)
    have HB := Lib.hid hb3
    clear HT hf3 hb3
    have hvs : (v < 0) ∨ (0 ≤ v) := by omega
    rcases hvs with hv | hv
    all_goals
      have HI := fun o => catch_index_bad (HB.out.alloc o) (by first | exact Or.inl hv | exact Or.inr (by simpa using hv)) (by omega)
      have HH := Lib.hid HI
      clear HI
      go_wp2_with fail
      refine (HH.out _).mono ?_
      rintro e w4 ⟨rfl, hf4, hb4⟩
      obtain ⟨d0, d1, d2, d3, d4, _, _, _, _, _⟩ := hb4.c5
      have hlt4 := hb4.lt
      have HF := Lib.hid ((hf03.alloc _).then hf4 fun i h hi => absurd hi (by omega))
      clear HH hf4 hb4
      go_wp2_with fail
      go_ret
      exact ⟨rfl, HF.out.alloc _⟩

/-- a list of ints that comes in -/
def Ints (w : World) (A : Option Addr) (cap : Nat) (L : List Int) : Prop :=
  (A = none ∧ L = []) ∨ ∃ a, A = some a ∧ L.length ≤ cap ∧ ∀ (i : Nat) (n : Int), L[i]? = some n → w.cell? (a.add i) = some (.int .i64 n)

theorem Try.int_cells : Try.prog.cellsOf 3 = 1 := by kernel_rfl

theorem open_list {H : Type} {enc : TypeId × Value → H} {W : World} {base : Nat} {v : Value} {d : DataW H} {p : List MemPlace} (hv : Value.okWide Try.prog W .any base 36 v) (h : DataW.Trod enc Try.prog W 0 (fun _ => true) true 36 v d p) :
    ∃ (L : List Int) (A : Option Addr) (cap : Nat), v = .slice A L.length cap ∧ L.length ≤ maxLen ∧ Ints W A cap L := by
  obtain ⟨A, len, cap, rfl⟩ := okWide_slice Try.underlying36 hv
  obtain ⟨fuel, hf⟩ := h
  rcases open_ints Try.underlying36 Try.underlying3 (by kernel_rfl) hf with ⟨hcs, _⟩ | ⟨x, l, c, zs, hcs, _, hl, hm, hz, _, hcell, hwz⟩
  · simp [Value.cells] at hcs
    obtain ⟨rfl, rfl, rfl⟩ := hcs
    exact ⟨[], none, 0, rfl, by simp, Or.inl ⟨rfl, rfl⟩⟩
  · simp [Value.cells] at hcs
    obtain ⟨rfl, rfl, rfl⟩ := hcs
    have hz' : zs.length = cap := by simpa using hz
    refine ⟨zs.take len, some x, cap, by rw [List.length_take, Nat.min_eq_left (by omega)], by rw [List.length_take]; omega, Or.inr ⟨x, rfl, by rw [List.length_take]; omega, fun i n hi => ?_⟩⟩
    rw [List.getElem?_take] at hi
    split at hi
    · have hlt := (List.getElem?_eq_some_iff.1 hi).1
      have := hcell i hlt
      rw [List.getD_eq_getElem?_getD, hi] at this
      exact this
    · cases hi

theorem must_all (v c : Int) (L : List Int) (A : Option Addr) (cap : Nat) (w : World) (hl : L.length ≤ maxLen) (hw : Ints w A cap L) :
    Calls Try.prog 5 #[.int .i64 v, .int .i64 c, .slice A L.length cap] w fun e w' => e = .returned (.bool true) ∧ Fr Nil w w' := by
  rcases hw with ⟨rfl, rfl⟩ | ⟨a, rfl, hc, hcell⟩
  · exact must_nil v c cap w
  · exact must_walk v c L a cap w hl hc hcell
end Go.Proofs.Ytendhgnhncnabaa.FiveK
