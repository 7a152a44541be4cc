/- Chapter 6: All. -/
import Derived.Test.YtemofdbepalnkaaPoolG
import Derived.Test.YtemofdbepalnkaaPoolK
namespace Go.Proofs.Ytemofdbepalnkaa.PoolL
open Go.RowKit Base Slices Quiet PoolA PoolB PoolH PoolI
set_option linter.unusedVariables false
set_option linter.unusedSimpArgs false

/-- the numbers that are taken, rising -/
def nums (l : List Slot) : Nat → List Int
  | 0 => []
  | k + 1 => nums l k ++ (if tkn l k = true then [(k : Int) + 1] else [])
where tkn (l : List Slot) (k : Nat) : Bool := match l[k]? with | some p => p.2.2 | none => false
theorem nums_len (l : List Slot) : ∀ k, (nums l k).length ≤ k
  | 0 => by simp [nums]
  | k + 1 => by
    have := nums_len l k
    simp only [nums, List.length_append]
    split <;> simp <;> omega

section
variable (w : World)
set_option maxRecDepth 100000 in
set_option maxHeartbeats 4000000 in
theorem All_any {g : Nat} {v : Value} {l : List Slot} {free n : Int} {most : Nat} (h : Pl w g v l free n most) (hl : l.length ≤ 1000) :
    Calls Try.prog 14 #[.pointer (some ⟨g, 0, none⟩)] w fun e w' => ∃ u, e = .returned u ∧ Fr Nil w w' ∧ Sl EI w' u (nums l l.length) := by
  obtain ⟨c0, c1, c2, c3, _, _, _, _⟩ := h.1.c4
  obtain ⟨A, c, rfl⟩ := (h.2.sl ES_ok).shape
  have H := Lib.hid h
  have hl' : (l.length : Int) ≤ 1000 := by omega
  clear h
  go_enter Try.func14, Try.ntmps14
  go_wp2_with fail
  go_loopw [3, 13] (fun xo i wr => ∃ (k : Nat), k ≤ l.length ∧ i = .int .i64 k ∧ Own EI wr w.heap.size xo (nums l k) ∧ Fr Nil w wr) (fun _ i _ => l.length - (intOf i).toNat)
  case atStart => exact ⟨0, by omega, rfl, Own.nil _ _, Fr.refl _ _⟩
  case round =>
    obtain ⟨k, hk, rfl, ho, hf⟩ := hrel
    have HO := Lib.hid ho
    have HF := Lib.hid hf
    by_cases hlt : k < l.length
    · obtain ⟨p, hp⟩ : ∃ y, l[k]? = some y := ⟨l[k], List.getElem?_eq_getElem hlt⟩
      obtain ⟨b, c', hv, hc, _, _, _, d0, d1, d2, _⟩ := (H.out.nil hf).slot hp
      simp only [Value.slice.injEq, true_and] at hv
      obtain ⟨rfl, rfl⟩ := hv
      have hnl := nums_len l k
      have HN := Lib.hid (show nums l (k + 1) = nums l k ++ (if p.2.2 = true then [(k : Int) + 1] else []) by simp only [nums, nums.tkn, hp])
      have hlk : (k : Int) < l.length := by omega
      clear hp ho hf
      generalize nums l k = so at *
      obtain ⟨A2, d, rfl⟩ := (HO.out.sl EI_ok).shape
      rcases hz : p.2.2 with _ | _
      · rw [hz] at d2
        have HE := Lib.hid (show nums l (k + 1) = so by rw [HN.out, hz]; simp)
        clear hz
        go_wp2_with fail
        go_roundw
        case rel => exact ⟨k + 1, by omega, by go_num, by rw [HE.out]; exact HO.out.alloc _, HF.out.alloc _⟩
        case measure => simp [intOf]; omega
      · rw [hz] at d2
        have HE := Lib.hid (show nums l (k + 1) = so ++ [(k : Int) + 1] by rw [HN.out, hz]; simp)
        have hbs := HF.out.size
        clear hz
        go_wp2_with (at_builtin; refine wpList_app EI_ok rfl (.tmp 20) (.tmp 23) 36 rfl rfl w.heap.size _ _ so [((k : Int) + 1)] rfl (Own.alloc (Own.alloc HO.out _) _) rfl (lit_sl EI_ok [((k : Int) + 1)] rfl (by simp) 3).come (by simp; omega) (by simp; omega) ?_; intro v3 w3 o1 o2 o3 o4; have HO3 := Lib.hid o1; have HF3 := Lib.hid (show Fr Nil w w3 from Fr.then ((HF.out.alloc (.cells #[.int .i64 p.1, .int .i64 p.2.1, .bool true] 54)).alloc (.cells #[.int .i64 ((k : Int) + 1)] 3)) o2 (fun i hi hlt => by have := (HO.out.lt i hi).1; omega)); clear o1 o2 o3 o4)
        go_roundw
        case rel => exact ⟨k + 1, by omega, by go_num, by rw [HE.out]; exact HO3.out, HF3.out⟩
        case measure => simp [intOf]; omega
    · obtain rfl : k = l.length := by omega
      have HE := Lib.hid (ho.sl EI_ok)
      clear ho hf HO
      go_wp2_with fail
      go_ret
      exact ⟨_, rfl, HF.out, HE.out⟩
end
end Go.Proofs.Ytemofdbepalnkaa.PoolL
