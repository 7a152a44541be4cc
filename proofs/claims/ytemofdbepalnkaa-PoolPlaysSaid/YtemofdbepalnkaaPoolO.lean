/- Chapter 6: the walk of the law PoolPlays. -/
import Derived.Test.YtemofdbepalnkaaPoolN
import Derived.Deep.DeepCutAuto
namespace Go.Proofs.Ytemofdbepalnkaa.PoolO
open Go.RowKit Base Slices Quiet PoolA PoolB PoolC PoolD PoolE PoolF PoolG PoolH PoolI PoolJ PoolK PoolL PoolM PoolN
set_option linter.unusedVariables false
set_option linter.unusedSimpArgs false

theorem act_three {w : World} {A : Option Addr} {c : Nat} {l : List Ac} (h : Come EA w (.slice A l.length c) l) {k : Nat} {p : Ac} (hp : l[k]? = some p) : ∃ g o, A = some ⟨g, o, none⟩ ∧ l.length ≤ c ∧ w.cell? ⟨g, o + k * 3, none⟩ = some (.int .i64 p.1) ∧ w.cell? ⟨g, o + k * 3 + 1, none⟩ = some (.int .i64 p.2.1) ∧ w.cell? ⟨g, o + k * 3 + 2, none⟩ = some (.int .i64 p.2.2) := by
  obtain ⟨g, o, rfl, hc, h0, h1⟩ := act_at h hp
  rcases h with ⟨h, _⟩ | ⟨a, cap, he, _, hr⟩
  · simp at h
  · simp only [Value.slice.injEq, Option.some.injEq] at he
    obtain ⟨rfl, _, rfl⟩ := he
    refine ⟨g, o, rfl, hc, h0, h1, ?_⟩
    have := hr (k * 3 + 2) (.int .i64 p.2.2) (flat_at EA_ok l k p hp 2 _ rfl)
    rw [add_mk, ← Nat.add_assoc] at this
    exact this
theorem sl_at {w : World} {v : Value} {L : List Int} (h : Sl EI w v L) {k : Nat} {n : Int} (hk : L[k]? = some n) : ∃ g o c, v = .slice (some ⟨g, o, none⟩) L.length c ∧ L.length ≤ c ∧ w.cell? ⟨g, o + k, none⟩ = some (.int .i64 n) := by
  rcases h with ⟨_, rfl⟩ | ⟨g, o, cap, rfl, hc, ha, hr⟩
  · simp at hk
  · have := Row.at EI_ok hr hk (j := 0) (u := .int .i64 n) rfl
    simp only [show EI.size = 1 from rfl, Nat.mul_one, Nat.add_zero] at this
    exact ⟨g, o, cap, rfl, hc, this⟩
/-- where a taken one stands among all -/
theorem nums_at {l : List Slot} {q : Nat} (ht : nums.tkn l q = true) : ∀ m, q < m → (nums l m)[(nums l q).length]? = some ((q : Int) + 1)
  | 0, h => absurd h (by omega)
  | m + 1, h => by
    by_cases e : q = m
    · subst e
      simp only [nums, ht, if_true]
      simp
    · have ih := nums_at ht m (by omega)
      have hlt := (List.getElem?_eq_some_iff.1 ih).1
      simp only [nums]
      rw [List.getElem?_append_left hlt]
      exact ih
theorem nums_yes {l : List Slot} {q : Nat} (ht : nums.tkn l q = true) : (nums l (q + 1)).length = (nums l q).length + 1 := by
  simp only [nums, ht, if_true]
  simp
theorem nums_no {l : List Slot} {q : Nat} (ht : nums.tkn l q = false) : (nums l (q + 1)).length = (nums l q).length := by
  simp only [nums, ht]
  simp
theorem tkn_some {l : List Slot} {q : Nat} {p : Slot} (h : l[q]? = some p) : nums.tkn l q = p.2.2 := by simp only [nums.tkn, h]
theorem nums_in {l : List Slot} {q : Nat} : ∀ m, q ≤ m → (nums l q).length ≤ (nums l m).length
  | 0, h => by obtain rfl : q = 0 := by omega
               exact Nat.le_refl _
  | m + 1, h => by
    rcases Nat.lt_or_ge m q with e | e
    · obtain rfl : q = m + 1 := by omega
      exact Nat.le_refl _
    · have := nums_in (l := l) m e
      simp only [nums, List.length_append]
      omega
/-- how many are met ahead of number j -/
def met (l : List Slot) (j : Nat) : Nat := (nums l (min (j - 1) l.length)).length
theorem met_le (l : List Slot) (j : Nat) : met l j ≤ l.length := by
  have := nums_len l (min (j - 1) l.length)
  unfold met
  omega

theorem met_zero (l : List Slot) : met l 0 = 0 := by simp [met, nums]
theorem met_at {l : List Slot} {q : Nat} (h : q < l.length) : met l (q + 1) = (nums l q).length := by
  unfold met
  rw [show min (q + 1 - 1) l.length = q by omega]
theorem met_end {l : List Slot} : met l (l.length + 2) = (nums l l.length).length := by
  unfold met
  rw [show min (l.length + 2 - 1) l.length = l.length by omega]
theorem met_yes {l : List Slot} {q : Nat} {p : Slot} (hp : l[q]? = some p) (ht : p.2.2 = true) : met l (q + 1 + 1) = (nums l q).length + 1 := by
  have h := (List.getElem?_eq_some_iff.1 hp).1
  unfold met
  rw [show min (q + 1 + 1 - 1) l.length = q + 1 by omega, nums_yes (by rw [tkn_some hp]; exact ht)]
theorem met_no {l : List Slot} {j : Nat} (h : ∀ (k : Nat) (p : Slot), (j : Int) = (k : Int) + 1 → l[k]? = some p → p.2.2 = false) : met l (j + 1) = met l j := by
  unfold met
  rcases Nat.eq_zero_or_pos j with rfl | hj
  · simp
  · rcases Nat.lt_or_ge (j - 1) l.length with hl | hl
    · have := nums_no (l := l) (q := j - 1) (by rw [tkn_some (List.getElem?_eq_getElem hl)]; exact h (j - 1) _ (by omega) (List.getElem?_eq_getElem hl))
      rw [show min (j + 1 - 1) l.length = j - 1 + 1 by omega, show min (j - 1) l.length = j - 1 by omega, this]
    · rw [show min (j + 1 - 1) l.length = l.length by omega, show min (j - 1) l.length = l.length by omega]

section
variable (w : World)
set_option maxHeartbeats 1000000 in
theorem New_no (most : Int) (h : most < 1 ∨ 1048576 < most) : Calls Try.prog 6 #[.int .i64 most] w fun e w' => e = .returned (.tuple #[.pointer none, .int .i64 1]) ∧ Fr Nil w w' := by
  rcases h with h | h
  · go_enter Try.func6, Try.ntmps6
    go_wp2_with fail
    exact bodyPost_ret (v := .tuple #[.pointer none, .int .i64 1]) (by simp [results, Try.results6, go_sem]) rfl ⟨rfl, by (repeat' (with_reducible first | refine Fr.setCell ?_ (fun hlt => absurd hlt (by dsimp only; omega)) _ | refine Fr.alloc ?_ _ | refine Fr.drewN ?_ _ | refine Fr.drew ?_ | exact Fr.refl _ _))⟩
  · have h' : 1 ≤ most := by omega
    go_enter Try.func6, Try.ntmps6
    go_wp2_with fail
    exact bodyPost_ret (v := .tuple #[.pointer none, .int .i64 1]) (by simp [results, Try.results6, go_sem]) rfl ⟨rfl, by (repeat' (with_reducible first | refine Fr.setCell ?_ (fun hlt => absurd hlt (by dsimp only; omega)) _ | refine Fr.alloc ?_ _ | refine Fr.drewN ?_ _ | refine Fr.drew ?_ | exact Fr.refl _ _))⟩

set_option maxHeartbeats 2000000 in
theorem plays_out (most : Int) (v : Value) (h : most < 1 ∨ 1048576 < most) : Calls Try.prog 4 #[.int .i64 most, v] w fun e w' => e = .returned (.bool true) ∧ Fr Nil w w' := by
  have K1 := Lib.hid (New_no w most h)
  have KL := Lib.hid (fun W => lives_any W)
  rcases Int.lt_or_le most 1 with n0 | n0
  · go_enter Try.func4, Try.ntmps4
    go_wp2_with fail
    refine K1.out.mono ?_
    rintro e w1 ⟨rfl, hf1⟩
    have HF1 := Lib.hid hf1
    go_wp2_with fail
    refine (KL.out _).mono ?_
    rintro e w2 ⟨rfl, hf2⟩
    go_wp2_with fail
    exact bodyPost_ret (v := .bool true) (by simp [results, Try.results4, go_sem]) rfl ⟨rfl, HF1.out.trans hf2⟩
  · have n1 : 1048576 < most := by omega
    clear h
    go_enter Try.func4, Try.ntmps4
    go_wp2_with fail
    refine K1.out.mono ?_
    rintro e w1 ⟨rfl, hf1⟩
    have HF1 := Lib.hid hf1
    go_wp2_with fail
    refine (KL.out _).mono ?_
    rintro e w2 ⟨rfl, hf2⟩
    go_wp2_with fail
    exact bodyPost_ret (v := .bool true) (by simp [results, Try.results4, go_sem]) rfl ⟨rfl, HF1.out.trans hf2⟩
end

/-- behind so many acts -/
def LR (w : World) (g x most : Nat) (i : Value) (wr : World) : Prop := ∃ (k : Nat) (l : List Slot) (gs : List Nat) (V : List Int), i = .int .i64 k ∧ k ≤ 60 ∧
  Tw (fun j => w.heap.size ≤ j) wr g x l (enc gs) (nt (marks l) : Nat) V (marks l) (given gs) most ∧ Inv l gs V most ∧ l.length ≤ k ∧ gs.length ≤ k ∧ Fr Nil w wr
/-- behind so many numbers -/
def NR (w4 : World) (l : List Slot) (kv nv : Value) (wr : World) : Prop := ∃ j : Nat, j ≤ l.length + 2 ∧ nv = .int .i64 j ∧ kv = .int .i64 (met l j : Nat) ∧ Fr Nil w4 wr

section
variable (w : World)
set_option maxRecDepth 100000 in
set_option maxHeartbeats 16000000 in
theorem plays_in {acts : List Ac} {y : Value} (most : Nat) (h1 : 1 ≤ most) (h2 : most ≤ 1048576) (ha : Come EA w y acts) (hal : acts.length ≤ maxLen) :
    Calls Try.prog 4 #[.int .i64 (most : Int), y] w fun e w' => e = .returned (.bool true) ∧ Fr Nil w w' := by
  have K1 := Lib.hid (New_ok w most h1 h2)
  have KL := Lib.hid (fun W => lives_any W)
  have HA := Lib.hid ha
  have HM := Lib.hid h2
  obtain ⟨A0, c0, rfl⟩ := ha.shape
  have m1 : (1 : Int) ≤ most := by omega
  have m2 : (most : Int) ≤ 1048576 := by omega
  have hal' : (acts.length : Int) ≤ 9223372036854775807 := by unfold maxLen at hal; omega
  clear ha hal h1 h2
  go_enter Try.func4, Try.ntmps4
  go_wp2_with fail
  refine K1.out.mono ?_
  rintro e w1 ⟨rfl, hf1, hs1⟩
  have hx1 : w.heap.size < w1.heap.size := hs1.1.lt
  have HF1 := Lib.hid (hf1.alloc (.cells #[.slice none 0 0, .slice none 0 0, .slice none 0 0, .int .i64 most] 39))
  have HT1 := Lib.hid (show Tw (fun j => w.heap.size ≤ j) (w1.alloc (.cells #[.slice none 0 0, .slice none 0 0, .slice none 0 0, .int .i64 most] 39)) w.heap.size w1.heap.size [] (enc []) (nt (marks []) : Nat) [] (marks []) (given []) most from
    ⟨.slice none 0 0, .slice none 0 0, .slice none 0 0, .slice none 0 0, hs1.nil ((Fr.refl Nil w1).alloc _), ⟨Bk.new w1 _ _, Own.nil _ _, Own.nil _ _, Or.inl ⟨rfl, rfl⟩, fun k hk => by cases hk⟩,
      ⟨(fun k hk s => by
        rcases hk with hk | hk | hk | hk
        · rcases s with s | s
          · omega
          · cases s
        · cases hk
        · cases hk
        · cases hk),
      (fun k hk => by
        rcases hk with hk | hk | hk | hk
        · omega
        · cases hk
        · cases hk
        · cases hk),
      (fun k hk => by
        rcases hk with hk | hk
        · omega
        · cases hk)⟩⟩)
  clear hf1 hs1 K1
  go_wp2_with fail
  go_loopw [8] (fun i wr => LR w w.heap.size w1.heap.size most i wr) (fun i _ => 60 - (intOf i).toNat)
  case atStart => exact ⟨0, [], [], [], rfl, by omega, HT1.out, Inv.start most, by simp, by simp, HF1.out⟩
  case round =>
    obtain ⟨k, l, gs, V, rfl, hk, ht, hI, hll, hgl, hf⟩ := hrel
    have HF := Lib.hid hf
    by_cases hlt : k < acts.length ∧ k < 60
    · obtain ⟨hka, hk6⟩ := hlt
      obtain ⟨p, hp⟩ : ∃ p, acts[k]? = some p := ⟨acts[k], List.getElem?_eq_getElem hka⟩
      obtain ⟨ga, o, rfl, hca, a0, a1, a2⟩ := act_three (HA.out.fr hf) hp
      have hka' : (k : Int) < acts.length := by omega
      have hk6' : (k : Int) < 60 := by omega
      have KD := Lib.hid (does_any wr ht hf.size hI (by omega) (by omega) HM.out p.1 p.2.1 p.2.2)
      clear hp ht hI hf
      go_wp2_with fail
      refine KD.out.mono ?_
      rintro e w2 ⟨rfl, hf2, l', gs', V', ht2, hI2, hl2, hg2⟩
      obtain ⟨v, vv, tv, gv, hP, hR, hA⟩ := ht2
      have HF2 := Lib.hid (HF.out.then hf2 (fun i hi hlt => absurd hi (by omega)))
      have HP := Lib.hid hP
      have HR := Lib.hid hR
      have HAP := Lib.hid hA
      have HI2 := Lib.hid hI2
      have HL2 := Lib.hid hl2
      have HG2 := Lib.hid hg2
      have hVl := hI2.len
      obtain ⟨AV, cV, hvv⟩ := (hR.2.1.sl EI_ok).shape
      rw [hVl] at hvv
      subst hvv
      have HVL := Lib.hid hVl
      clear hVl
      have hnl := nt_le (marks l')
      rw [marks_len] at hnl
      have hlm := hI2.le
      have HLM := Lib.hid hlm
      have b1 : (0 : Int) ≤ (nt (marks l') : Nat) := by omega
      have b2 : ((nt (marks l') : Nat) : Int) ≤ most := by omega
      have HLK := Lib.hid (show l'.length ≤ 100 by omega)
      clear hf2 hP hR hA hI2 hl2 hg2 hnl hlm KD a0 a1 a2
      go_wp2_with fail
      refine (Len_any w2 HP.out).mono ?_
      rintro e w3 ⟨rfl, hf3⟩
      have HF3 := Lib.hid hf3
      clear hf3
      go_wp2_with fail
      refine (N_any w3 (HR.out.nil HF3.out) (by rw [marks_len]; have := HLK.out; omega)).mono ?_
      rintro e w4 ⟨rfl, hf4⟩
      have HF4 := Lib.hid (HF3.out.trans hf4)
      clear hf4
      go_wp2_with fail
      refine (Room_any w4 (HP.out.nil HF4.out) ⟨by omega, by have := HM.out; omega⟩ HM.out).mono ?_
      rintro e w5 ⟨rfl, hf5⟩
      have HF5 := Lib.hid (HF4.out.trans hf5)
      clear hf5
      go_wp2_with fail
      refine (N_any w5 (HR.out.nil HF5.out) (by rw [marks_len]; have := HLK.out; omega)).mono ?_
      rintro e w6 ⟨rfl, hf6⟩
      have HF6 := Lib.hid (HF5.out.trans hf6)
      clear hf6
      go_wp2_with fail
      refine (All_any w6 (HP.out.nil HF6.out) (by have := HLK.out; omega)).mono ?_
      rintro e w7 ⟨u, rfl, hf7, hu⟩
      have HF7 := Lib.hid (HF6.out.trans hf7)
      have HU := Lib.hid hu
      obtain ⟨A7, c7, rfl⟩ := hu.shape
      clear hf7 hu
      go_wp2_with fail
      go_loopw [10, 11] (fun kv nv wx => NR w7 l' kv nv wx) (fun _ n _ => 200 - (intOf n).toNat)
      case atStart => exact ⟨0, by omega, rfl, by rw [met_zero]; rfl, Fr.refl _ _⟩
      case round =>
        obtain ⟨j, hj, rfl, rfl, hfx⟩ := hrel
        have HFX := Lib.hid hfx
        have HFW := Lib.hid (HF7.out.trans hfx)
        obtain ⟨x0, _⟩ := ((HR.out.nil HFW.out).1).c4
        clear hfx
        by_cases hlt : j ≤ l'.length + 1
        · have j1 : (j : Int) ≤ (l'.length : Int) + 1 := by omega
          have j2 : (l'.length : Int) ≤ 100 := by have := HLK.out; omega
          have j3 : (0 : Int) ≤ (l'.length : Int) := Int.natCast_nonneg _
          rcases there_or l' (j : Int) with ⟨q, p', hq, hp', ht'⟩ | hno
          · obtain rfl : j = q + 1 := by omega
            have hql := (List.getElem?_eq_some_iff.1 hp').1
            have HMET := Lib.hid (met_yes hp' ht')
            have hnat := nums_at (l := l') (q := q) (by rw [tkn_some hp']; exact ht') l'.length hql
            rw [met_at hql]
            have hnl := (List.getElem?_eq_some_iff.1 hnat).1
            have HNAT := Lib.hid hnat
            have HV := Lib.hid (HI2.out.val q p' hp' ht')
            have HP' := Lib.hid hp'
            have HT' := Lib.hid ht'
            have HMK := Lib.hid (show (marks l')[q]? = some true by rw [marks_at hp', ht'])
            have q0 : (0 : Int) ≤ q := Int.natCast_nonneg q
            have q1 : (q : Int) < l'.length := by omega
            have q2 : ((nums l' q).length : Int) < ((nums l' l'.length).length : Nat) := by omega
            have q3 : (0 : Int) ≤ ((nums l' q).length : Nat) := Int.natCast_nonneg _
            have q4 : (q : Int) + 1 ≤ 200 := by have := HLK.out; omega
            have q5 : ((nums l' q).length : Int) ≤ 200 := by have := HLK.out; have := nums_len l' q; omega
            rw [show ((q + 1 : Nat) : Int) = (q : Int) + 1 from by omega] at j1 ⊢
            clear hp' ht' hnat hnl hq
            go_wp2_with fail
            refine (Get_ok wr (HP.out.nil HFW.out) HP'.out HT'.out (by have := HLK.out; omega)).mono ?_
            rintro e wy ⟨rfl, hfy⟩
            have HFY := Lib.hid (HFW.out.trans hfy)
            have HFY7 := Lib.hid hfy
            clear hfy x0
            go_wp2_with fail
            refine (Has_yes wy (HR.out.nil HFY.out) (by rw [marks_len]; have := HLK.out; omega) HMK.out).mono ?_
            rintro e wz ⟨rfl, hfz⟩
            have HFZ := Lib.hid (HFY.out.trans hfz)
            have HFZ7 := Lib.hid hfz
            have hRz := HR.out.nil HFZ.out
            obtain ⟨z0, _⟩ := hRz.1.c4
            obtain ⟨bV, cV', hVe, hVc, _, _, z1, _⟩ := own_at EI_ok rfl (fun _ => rfl) hRz.2.1 HV.out
            obtain ⟨gA, oA, cA, hAe, hAc, z2⟩ := sl_at (HU.out.fr (HFX.out.trans (HFY7.out.trans hfz))) HNAT.out
            have HAC := Lib.hid hAc
            have HVC := Lib.hid hVc
            simp only [Value.slice.injEq, Option.some.injEq] at hVe hAe
            obtain ⟨rfl, hx1, rfl⟩ := hVe
            obtain ⟨rfl, hx2, rfl⟩ := hAe
            clear hRz hfz hAc hVc hx1 hx2
            go_wp2_with fail
            go_roundw
            case rel => exact ⟨q + 1 + 1, by omega, by go_num, by rw [HMET.out]; go_num, HFX.out.trans (HFY7.out.trans HFZ7.out)⟩
            case measure => simp [intOf]; omega
          · have HNO := Lib.hid hno
            have HMET := Lib.hid (met_no hno)
            have m1 : ((met l' j : Nat) : Int) ≤ 100 := by have := met_le l' j; omega
            clear hno
            go_wp2_with fail
            refine (Get_bad wr (HP.out.nil HFW.out) HNO.out (by have := HLK.out; omega)).mono ?_
            rintro e wy ⟨rfl, hfy⟩
            have HFY := Lib.hid (HFW.out.trans hfy)
            have HFY7 := Lib.hid hfy
            clear hfy x0
            go_wp2_with fail
            refine (Has_no wy (HR.out.nil HFY.out) (by rw [marks_len]; have := HLK.out; omega) (not_there HNO.out)).mono ?_
            rintro e wz ⟨rfl, hfz⟩
            have HFZ7 := Lib.hid hfz
            clear hfz
            go_wp2_with fail
            go_roundw
            case rel => exact ⟨j + 1, by omega, by go_num, by rw [HMET.out], HFX.out.trans (HFY7.out.trans HFZ7.out)⟩
            case measure => simp [intOf]; omega
        · obtain rfl : j = l'.length + 2 := by omega
          have j2 : (l'.length : Int) ≤ 100 := by have := HLK.out; omega
          have j3 : (0 : Int) ≤ (l'.length : Int) := Int.natCast_nonneg _
          rw [met_end]
          go_wp2_with fail
          go_roundw
          case rel => exact ⟨k + 1, l', gs', V', by go_num, by omega, ⟨_, _, _, _, HP.out.nil HFW.out, HR.out.nil HFW.out, HAP.out⟩, HI2.out, by have := HL2.out; omega, by have := HG2.out; omega, HF2.out.trans HFW.out⟩
          case measure => simp [intOf]; omega
    · have HF := Lib.hid hf
      clear ht hI hf
      by_cases hk1 : k < acts.length
      · have j1 : (k : Int) < acts.length := by omega
        have j2 : (60 : Int) ≤ k := by omega
        go_wp2_with fail
        refine (KL.out wr).mono ?_
        rintro e w9 ⟨rfl, hf9⟩
        have HF9 := Lib.hid hf9
        clear hf9
        go_wp2_with fail
        exact bodyPost_ret (v := .bool true) (by simp [results, Try.results4, go_sem]) rfl ⟨rfl, HF.out.trans HF9.out⟩
      · have j1 : (acts.length : Int) ≤ k := by omega
        go_wp2_with fail
        refine (KL.out wr).mono ?_
        rintro e w9 ⟨rfl, hf9⟩
        have HF9 := Lib.hid hf9
        clear hf9
        go_wp2_with fail
        exact bodyPost_ret (v := .bool true) (by simp [results, Try.results4, go_sem]) rfl ⟨rfl, HF.out.trans HF9.out⟩
theorem plays_any {acts : List Ac} {y : Value} (most : Int) (ha : Come EA w y acts) (hal : acts.length ≤ maxLen) :
    Calls Try.prog 4 #[.int .i64 most, y] w fun e w' => e = .returned (.bool true) ∧ Fr Nil w w' := by
  by_cases h : 1 ≤ most ∧ most ≤ 1048576
  · obtain ⟨n, rfl⟩ := Int.eq_ofNat_of_zero_le (show 0 ≤ most by omega)
    exact plays_in w n (by omega) (by omega) ha hal
  · exact plays_out w most y (by omega)
end
end Go.Proofs.Ytemofdbepalnkaa.PoolO
