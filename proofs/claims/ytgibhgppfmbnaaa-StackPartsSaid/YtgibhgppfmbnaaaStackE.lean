/- Chapter 10: Same of two lists that are one; rest (all elements of a stack). -/
import Derived.Test.YtgibhgppfmbnaaaStackD
namespace Go.Proofs.Ytgibhgppfmbnaaa.StackE
open Go.RowKit Base Slices Quiet StackA StackB StackC TrapA TrapB TrapG
set_option linter.unusedVariables false
set_option linter.unusedSimpArgs false

section
variable (w : World)
set_option maxHeartbeats 2000000 in
theorem same_any {l : List Int} {va vb : Value} (hl : l.length ≤ 100000) (hva : Sl EI w va l) (hvb : Sl EI w vb l) :
    Calls Try.prog 14 #[va, vb] w fun e w' => e = .returned (.bool true) ∧ Fr Nil w w' := by
  by_cases hne : l = []
  · subst hne
    obtain ⟨A, c, rfl⟩ := Sl.shape hva
    obtain ⟨B, d, rfl⟩ := Sl.shape hvb
    simp only [List.length_nil]
    clear hva hvb
    go_enter Try.func14, Try.ntmps14
    go_wp2_with fail
    refine wp_loop_rounds 1 ?_
    rw [rounds_succ]
    go_wp2
    go_ret
    exact ⟨rfl, by (repeat' (with_reducible first | refine Fr.setCell ?_ (fun hlt => absurd hlt (by dsimp only; omega)) _ | refine Fr.alloc ?_ _ | refine Fr.drewN ?_ _ | refine Fr.drew ?_ | exact Fr.refl _ _))⟩
  · rcases hva with ⟨_, h⟩ | ⟨g, o, cap, rfl, hc, ha, hr⟩
    · exact absurd h hne
    rcases hvb with ⟨_, h⟩ | ⟨g', o', cap', rfl, hc', ha', hr'⟩
    · exact absurd h hne
    clear hne
    go_enter Try.func14, Try.ntmps14
    go_wp2_with fail
    go_loopw [5] (fun i wr => ∃ k : Nat, k ≤ l.length ∧ i = .int .i64 k ∧ Fr Nil w wr) (fun i _ => l.length - (intOf i).toNat)
    case atStart => exact ⟨0, by omega, rfl, by (repeat' (with_reducible first | refine Fr.setCell ?_ (fun hlt => absurd hlt (by dsimp only; omega)) _ | refine Fr.alloc ?_ _ | refine Fr.drewN ?_ _ | refine Fr.drew ?_ | exact Fr.refl _ _))⟩
    case round =>
      obtain ⟨k, hk, rfl, hf⟩ := hrel
      by_cases hlt : k < l.length
      · obtain ⟨p, hp⟩ : ∃ p, l[k]? = some p := ⟨l[k], List.getElem?_eq_getElem hlt⟩
        have c0 := (hr.fr hf ha id).at EI_ok hp (j := 0) (u := .int .i64 p) rfl
        have d0 := (hr'.fr hf ha' id).at EI_ok hp (j := 0) (u := .int .i64 p) rfl
        simp only [EI, Nat.mul_one, Nat.add_zero] at c0 d0
        have hk0 : (0 : Int) ≤ k := by omega
        have hk1 : (k : Int) < l.length := by omega
        have HF := Lib.hid hf
        clear hf hp
        go_wp2_with fail
        go_quiet (fail)
        go_wp2_with fail
        go_roundw
        case rel => exact ⟨k + 1, by omega, by go_num, HF.out.drewN _⟩
        case measure => simp [intOf]; omega
      · obtain rfl : k = l.length := by omega
        have HF := Lib.hid hf
        clear hf
        go_wp2_with fail
        go_ret
        exact ⟨rfl, HF.out⟩

theorem cut_own (v : Value) : (cut v).ownBlock = v.ownBlock := by
  unfold cut
  split
  · rename_i A n c
    cases A <;> rfl
  · rfl
theorem Foot_cut (g : Nat) (v : Value) : Foot g (cut v) = Foot g v := by
  unfold Foot
  rw [cut_own]

/-- a slice with these elements -/
def Has (l : List Int) (w : World) (e : Ending) (w' : World) : Prop := ∃ A c, e = .returned (.slice A l.length c) ∧ Fr Nil w w' ∧ Sl EI w' (.slice A l.length c) l

/-- what is true at each round of rest -/
def RestRel (w : World) (g most : Nat) (l : List Int) (u i : Value) (wr : World) : Prop :=
  ∃ n v, n ≤ l.length ∧ i = .int .i64 (n : Int) ∧ Stk wr g v (l.take n) most ∧ Sl EI wr u (l.drop n) ∧ Fr Nil w wr ∧ w.heap.size ≤ g ∧ (∀ k, Foot g v k → w.heap.size ≤ k) ∧ ∀ k, u.ownBlock = some k → ¬ Foot g v k

set_option maxRecDepth 100000 in
set_option maxHeartbeats 8000000 in
theorem rest_any {g most : Nat} {v : Value} {l : List Int} (h : Stk w g v l most) (hl : l.length ≤ 100000) :
    Calls Try.prog 15 #[.pointer (some ⟨g, 0, none⟩)] w (Has l w) := by
  have HC := Lib.hid (Clone_any w h hl)
  clear h
  go_enter Try.func15, Try.ntmps15
  go_wp2_with fail
  refine HC.out.mono ?_
  rintro e w1 ⟨g1, v1, rfl, hf1, hs1, hg1, hv1⟩
  have HS1 := Lib.hid hs1
  have HV1 := Lib.hid hv1
  clear hs1 hv1
  go_wp2_with fail
  refine (Len_any _ (HS1.out.nil (by (repeat' (with_reducible first | refine Fr.setCell ?_ (fun hlt => absurd hlt (by dsimp only; omega)) _ | refine Fr.alloc ?_ _ | refine Fr.drewN ?_ _ | refine Fr.drew ?_ | exact Fr.refl _ _))))).mono ?_
  rintro e w2 ⟨rfl, hf2⟩
  have HU := Lib.hid ((show Sl EI (w1.alloc (.cells #[] 3)) (.slice (some ⟨w1.heap.size, 0, none⟩) 0 0) [] from (Own.made (E := EI) (base := 0) (Nat.zero_le _) rfl).sl EI_ok).fr hf2)
  have HS2 := Lib.hid ((HS1.out.nil ((Fr.refl Nil w1).alloc (.cells #[] 3))).nil hf2)
  have HF2 := Lib.hid ((hf1.alloc (.cells #[] 3)).trans hf2)
  have HL1 := Lib.hid HS1.out.lt
  have HG := Lib.hid hg1
  clear hf1 hf2 hg1
  go_wp2_with fail
  go_loopw [4, 5] (fun u i wr => RestRel w g1 most l u i wr) (fun _ i _ => (intOf i).toNat)
  case atStart =>
    refine ⟨l.length, v1, Nat.le_refl _, rfl, ?_, ?_, HF2.out, HG.out, ?_, ?_⟩
    · rw [List.take_length]; exact HS2.out
    · rw [List.drop_length]; exact HU.out
    · rintro k (rfl | hk)
      · exact HG.out
      · exact HV1.out k hk
    · intro k hk s
      have := HL1.out k s
      simp [Value.ownBlock] at hk
      omega
  case round =>
    obtain ⟨n, v, hn, rfl, hs, hu, hf, hg, hb, hap⟩ := hrel
    rcases Nat.eq_zero_or_pos n with rfl | hpos
    · have HU' := Lib.hid hu
      have HF' := Lib.hid hf
      obtain ⟨A, c, rfl⟩ := hu.shape
      clear hs hf hb hap hu
      go_wp2_with fail
      refine bodyPost_ret (v := .slice A (List.drop 0 l).length c) (by simp [results, Try.results15, go_sem]) rfl ⟨A, c, rfl, HF'.out, HU'.out⟩
    · obtain ⟨m, rfl⟩ : ∃ m, n = m + 1 := ⟨n - 1, by omega⟩
      obtain ⟨x, hx⟩ : ∃ x, l[m]? = some x := ⟨l[m], List.getElem?_eq_getElem (by omega)⟩
      have ht : l.take (m + 1) = l.take m ++ [x] := by rw [List.take_add_one, hx]; rfl
      have hd : l.drop m = [x] ++ l.drop (m + 1) := by
        obtain ⟨h1, h2⟩ := List.getElem?_eq_some_iff.1 hx
        rw [← h2]
        exact (List.drop_eq_getElem_cons h1)
      rw [ht] at hs
      obtain ⟨A, c, hue⟩ := hu.shape
      rw [List.length_drop] at hue
      subst hue
      have HS := Lib.hid hs
      have HU' := Lib.hid hu
      have HF' := Lib.hid hf
      have HB := Lib.hid hb
      have HAP := Lib.hid hap
      have HD := Lib.hid hd
      have hm1 : (0 : Int) < (m : Int) + 1 := by omega
      have hm2 : (m : Int) + 1 ≤ 100000 := by omega
      have HLT := Lib.hid hs.lt
      have hml : m < l.length := by omega
      clear hs hf hb hap hu hd ht hpos hx
      go_wp2_with fail
      refine (Pop_of _ (pop_snoc wr (l := l.take m) (x := x) HS.out (by rw [List.length_take]; omega))).mono ?_
      rintro e w3 ⟨rfl, hf3, hs3⟩
      have HF3 := Lib.hid hf3
      have HS3 := Lib.hid hs3
      have HU3 := Lib.hid (HU'.out.frS hf3 (fun k hk s => HAP.out k hk (Or.inl s)))
      have hone := Lib.hid (show [x].length ≤ maxLen by simp [maxLen])
      have hlen := Lib.hid (show [x].length + (l.drop (m + 1)).length ≤ 1000000 by simp; omega)
      clear hf3 hs3
      go_wp2_with (at_builtin; go_loud (refine wpList_app EI_ok rfl (.tmp 23) (.tmp 24) 28 rfl rfl 0 (.slice (some ⟨w3.heap.size, 0, none⟩) 1 1) (.slice A (l.length - (m + 1)) c) [x] (l.drop (m + 1)) rfl (Own.lit EI_ok [x] rfl (Nat.zero_le _) hone.out rfl) rfl (HU3.out.come.fr (by (repeat' (with_reducible first | refine Fr.setCell ?_ (fun hlt => absurd hlt (by dsimp only; omega)) _ | refine Fr.alloc ?_ _ | refine Fr.drewN ?_ _ | refine Fr.drew ?_ | exact Fr.refl _ _)))) hlen.out (Nat.zero_le _) ?_; intro v' w4 o1 o2 o3 o4; have HO := Lib.hid o1; have HF4 := Lib.hid o2; have HM := Lib.hid o3; clear o1 o2 o3 o4))
      have e1 : Fr Nil w3 w4 := fr_new (by (repeat' (with_reducible first | refine Fr.setCell ?_ (fun hlt => absurd hlt (by dsimp only; omega)) _ | refine Fr.alloc ?_ _ | refine Fr.drewN ?_ _ | refine Fr.drew ?_ | exact Fr.refl _ _))) HF4.out (fun k hk => by simp [Value.ownBlock] at hk; omega)
      have e2 : Fr (fun k => k = g1) wr w4 := HF3.out.trans e1.of_nil
      have HE1 := Lib.hid e1
      have HE2 := Lib.hid e2
      clear e1 e2
      go_roundw
      case rel =>
        refine ⟨m, cut v, by omega, by go_num, HS3.out.nil HE1.out, ?_, ?_, hg, ?_, ?_⟩
        · rw [HD.out]; exact HO.out.sl EI_ok
        · exact HF'.out.then HE2.out (fun i hi hlt => by have := HG.out; omega)
        · rw [Foot_cut]; exact HB.out
        · rw [Foot_cut]
          intro k hk s
          have h1 := HLT.out k s
          have h2 := HF3.out.size
          rcases HM.out k hk with h3 | h3
          · simp [Value.ownBlock] at h3; omega
          · simp at h3; omega
      case measure => simp [intOf]
end
end Go.Proofs.Ytgibhgppfmbnaaa.StackE
