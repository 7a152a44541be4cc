/- Chapter 10: the walk of the law StackPlays. -/
import Derived.Test.YtgibhgppfmbnaaaStackF
import Derived.Deep.DeepCutAuto
import Derived.Deep.CutBlock
namespace Go.Proofs.Ytgibhgppfmbnaaa.StackG
open Go.RowKit Base Slices Quiet StackA StackB StackC StackD StackE StackF TrapA TrapB TrapG
set_option linter.unusedVariables false
set_option linter.unusedSimpArgs false

theorem add_mk (g o n : Nat) : (⟨g, o, none⟩ : Addr).add n = ⟨g, o + n, none⟩ := by unfold Addr.add; split <;> simp_all
theorem spot_none {w : World} {a : Addr} {u : Value} (h : w.cell? (a.add 0) = some u) : ∃ g o, a = ⟨g, o, none⟩ := by
  have h' : w.cell? a = some u := h
  rcases a with ⟨g, o, _ | t⟩
  · exact ⟨g, o, rfl⟩
  · unfold World.cell? at h'
    split at h' <;> simp at h'
/-- the stack and the law's own list agree, and lie apart, in memory of the call's own -/
def Mid (w : World) (g most : Nat) (lv : Value) (wr : World) : Prop :=
  ∃ (v : Value) (l : List Int), Stk wr g v l most ∧ l.length ≤ most ∧ Sl EI wr lv l ∧ Fr Nil w wr ∧ (∀ j, Foot g v j → w.heap.size ≤ j) ∧ ∀ j, lv.ownBlock = some j → ¬ Foot g v j
/-- what is true at each round -/
def PlayRel (w : World) (g most : Nat) (lv i : Value) (wr : World) : Prop := ∃ k : Nat, i = .int .i64 (k : Int) ∧ k ≤ 50 ∧ Mid w g most lv wr

theorem Mid.nil {w wr w' : World} {g most : Nat} {lv : Value} (h : Mid w g most lv wr) (hf : Fr Nil wr w') : Mid w g most lv w' := by
  obtain ⟨v, l, h1, h2, h3, h4, h5, h6⟩ := h
  exact ⟨v, l, h1.nil hf, h2, h3.fr hf, h4.trans hf, h5, h6⟩

theorem snoc_cases (l : List Int) : l = [] ∨ ∃ l0 x, l = l0 ++ [x] := by
  rcases List.eq_nil_or_concat l with h | ⟨l0, x, h⟩
  · exact Or.inl h
  · exact Or.inr ⟨l0, x, by rw [h, List.concat_eq_append]⟩
theorem last_of {w : World} {v : Value} {l : List Int} {x : Int} (h : Sl EI w v (l ++ [x])) : ∃ b o c, v = .slice (some ⟨b, o, none⟩) (l.length + 1) c ∧ l.length + 1 ≤ c ∧ w.cell? ⟨b, o + l.length, none⟩ = some (.int .i64 x) ∧ Sl EI w (.slice (some ⟨b, o, none⟩) l.length c) l := by
  rcases h with ⟨_, h0⟩ | ⟨b, o, c, rfl, hc, hb, hr⟩
  · simp at h0
  · have hx := hr.at EI_ok (i := l.length) (p := x) (by simp) (j := 0) (u := .int .i64 x) rfl
    simp only [EI, Nat.mul_one, Nat.add_zero] at hx
    rw [List.length_append, List.length_singleton] at hc
    have ht := hr.take EI_ok l.length
    rw [List.take_left] at ht
    exact ⟨b, o, c, by rw [List.length_append, List.length_singleton], hc, hx, Or.inr ⟨b, o, c, rfl, by omega, hb, ht⟩⟩

set_option maxRecDepth 100000 in
set_option maxHeartbeats 16000000 in
theorem plays_in (w : World) {acts : List Ac} {y : Value} {most : Nat} (hm1 : 1 ≤ most) (hm2 : most ≤ 65536) (ha : Acts w y acts) (hal : acts.length ≤ maxLen) :
    Calls Try.prog 3 #[.int .i64 (most : Int), y] w fun e w' => e = .returned (.bool true) ∧ Fr Nil w w' := by
  have HN := Lib.hid (New_ok w most hm1 hm2)
  have i1 : (1 : Int) ≤ most := by omega
  have i2 : (most : Int) ≤ 65536 := by omega
  have HM := Lib.hid (And.intro hm1 hm2)
  have hal' : (acts.length : Int) ≤ 9223372036854775807 := by unfold maxLen at hal; omega
  have HA := Lib.hid ha
  obtain ⟨A0, c0, hy⟩ : ∃ A c, y = .slice A acts.length c := by
    rcases ha with ⟨rfl, rfl⟩ | ⟨a, cap, rfl, _⟩
    · exact ⟨_, _, rfl⟩
    · exact ⟨_, _, rfl⟩
  subst hy
  clear hm1 hm2 hal ha
  go_enter Try.func3, Try.ntmps3
  go_wp2_with fail
  refine HN.out.mono ?_
  rintro e w1 ⟨rfl, hf1, hs1⟩
  have HF1 := Lib.hid hf1
  have HS1 := Lib.hid hs1
  clear hf1 hs1
  go_wp2_with fail
  go_loopw [7, 8] (fun lv i wr => PlayRel w w.heap.size most lv i wr) (fun _ i _ => 50 - (intOf i).toNat)
  case atStart =>
    refine ⟨0, rfl, by omega, _, [], HS1.out.nil ((Fr.refl Nil w1).alloc _), Nat.zero_le _, (Own.made (E := EI) (base := 0) (Nat.zero_le _) rfl).sl EI_ok, HF1.out.alloc _, ?_, ?_⟩
    · rintro j (rfl | hj)
      · exact Nat.le_refl _
      · cases hj
    · rintro j hj (rfl | hj')
      · have := HS1.out.1.lt
        simp [Value.ownBlock] at hj
        omega
      · cases hj'
  case round =>
    obtain ⟨k, rfl, hk, v, l, hs, hlm, hl, hf, hb, hap⟩ := hrel
    by_cases hlt : k < acts.length ∧ k < 50
    · obtain ⟨hk1, hk2⟩ := hlt
      have hact := HA.out
      rcases hact with ⟨_, rfl⟩ | ⟨a, cap, hye, _, _, hact⟩
      · simp at hk1
      simp only [Value.slice.injEq, true_and] at hye
      obtain ⟨rfl, rfl⟩ := hye
      obtain ⟨g, o, rfl⟩ : ∃ g o, a = ⟨g, o, none⟩ := by
        have h0 := (hact 0 acts[0] (List.getElem?_eq_getElem (by omega))).1
        rw [Nat.zero_mul] at h0
        exact spot_none h0
      obtain ⟨⟨pk, pl⟩, hp⟩ : ∃ p, acts[k]? = some p := ⟨acts[k], List.getElem?_eq_getElem hk1⟩
      obtain ⟨q1, u, q2, q3, q4⟩ := hact k _ hp
      rw [add_mk] at q1 q2
      rw [add_mk] at q2
      dsimp only at q1 q2 q3 q4
      have k1 : (k : Int) < acts.length := by omega
      have k2 : (k : Int) < 50 := by omega
      have r1 := (hf.cell (World.block_lt_of_cell? w _ q1) id).trans q1
      have r2 := (hf.cell (World.block_lt_of_cell? w _ q2) id).trans q2
      obtain ⟨A2, c2, hu2⟩ := q3.shape
      subst hu2
      have kF := fun W (hW : Fr Nil w W) => Few_any W (k := 6) (q3.fr hW) (by decide) q4
      obtain ⟨m, hm⟩ : ∃ m, pl.take 6 = m := ⟨_, rfl⟩
      have hml : m.length ≤ 6 := by rw [← hm, List.length_take]; omega
      simp only [hm] at kF
      have KF := Lib.hid kF
      have Q1 := Lib.hid q1
      have Q2 := Lib.hid q2
      have HS := Lib.hid hs
      have HL := Lib.hid hl
      have HF := Lib.hid hf
      have HB := Lib.hid hb
      have HAP := Lib.hid hap
      clear hm kF q1 q2 q3 q4 hp hact hs hl hf hb hap
      go_wp2_with fail
      refine (KF.out _ HF.out).mono ?_
      rintro e w2 ⟨um, rfl, hf2, ho2, _⟩
      obtain ⟨A3, c3, hum⟩ := (ho2.sl EI_ok).shape
      subst hum
      have r1' := (hf2.cell (World.block_lt_of_cell? wr _ r1) id).trans r1
      have R2 := Lib.hid ((hf2.cell (World.block_lt_of_cell? wr _ r2) id).trans r2)
      have HO2 := Lib.hid ho2
      have HF2 := Lib.hid (HF.out.trans hf2)
      have HS2 := Lib.hid (HS.out.nil hf2)
      have HL2 := Lib.hid (HL.out.fr hf2)
      clear ho2 hf2 r1 r2 HS HL
      go_upto_block 2 with (fail)
      go_cut [7, 10, 11, 12] from 42 to 170 (fun lv _ _ _ wx => Mid w w.heap.size most lv wx)
      case first =>
        by_cases p1 : pk = 1
        · subst p1
          rcases snoc_cases l with rfl | ⟨l0, x, rfl⟩
          · obtain ⟨A, c, hlv⟩ := HL2.out.shape
            subst hlv
            go_wp2_with fail
            refine (Pop_of _ (pop_false _ (top_nil w2 HS2.out))).mono ?_
            rintro e w3 ⟨rfl, hf3⟩
            have HF3 := Lib.hid hf3
            clear hf3
            go_wp2_with fail
            go_meet
            case rel => exact ⟨v, [], HS2.out.nil HF3.out, Nat.zero_le _, HL2.out.fr HF3.out, HF2.out.trans HF3.out, HB.out, HAP.out⟩
          · obtain ⟨b, ob, cb, hlv, hcb, hcell, hsl⟩ := last_of HL2.out
            subst hlv
            have HSL := Lib.hid hsl
            have hlen : l0.length ≤ 100000 := by have h := HM.out.2; simp at hlm; omega
            have hb0 : (0 : Int) ≤ (l0.length : Int) := by omega
            have hb1 : (l0.length : Int) ≤ 100000 := by omega
            have hb2 : (l0.length : Int) + 1 ≤ cb := by omega
            have hlm' := Lib.hid (show l0.length ≤ most by simp at hlm; omega)
            have hapb := Lib.hid (HAP.out b rfl)
            have hcell' := Lib.hid hcell
            have hbl := Lib.hid (World.block_lt_of_cell? w2 _ hcell)
            clear hlm hsl hcell hcb
            go_wp2_with fail
            refine (Pop_of _ (pop_snoc w2 (l := l0) (x := x) HS2.out (Nat.le_trans hlen (by decide)))).mono ?_
            rintro e w3 ⟨rfl, hf3, hs3⟩
            have hc3 := (hf3.cell hbl.out (fun s => hapb.out (Or.inl s))).trans hcell'.out
            have HF3 := Lib.hid hf3
            have HS3 := Lib.hid hs3
            clear hf3 hs3
            go_wp2_with fail
            go_meet
            case rel =>
              refine ⟨cut v, l0, HS3.out, hlm'.out, HSL.out.frS HF3.out (fun j hj s => hapb.out (Or.inl (by simp [Value.ownBlock] at hj; rw [hj]; exact s))), HF2.out.then HF3.out (fun j hj hlt => by subst hj; exact absurd hlt (Nat.lt_irrefl _)), ?_, ?_⟩
              · rw [Foot_cut]; exact HB.out
              · rw [Foot_cut]; exact HAP.out
        have b1 : (pk == 1) = false := by simpa using p1
        by_cases p2 : pk = 2
        · subst p2
          go_wp2_with fail
          refine (Clear_any w2 HS2.out).mono ?_
          rintro e w3 ⟨rfl, hf3, hs3⟩
          have HF3 := Lib.hid hf3
          have HS3 := Lib.hid hs3
          clear hf3 hs3
          go_wp2_with fail
          go_meet
          case rel =>
            refine ⟨_, [], HS3.out.nil ((Fr.refl Nil w3).alloc _), Nat.zero_le _, (Own.made (E := EI) (base := 0) (Nat.zero_le _) rfl).sl EI_ok, (HF2.out.then HF3.out (fun j hj hlt => by subst hj; exact absurd hlt (Nat.lt_irrefl _))).alloc _, ?_, ?_⟩
            · rintro j (rfl | hj)
              · exact Nat.le_refl _
              · cases hj
            · rintro j hj (rfl | hj')
              · have := HS3.out.1.lt
                simp [Value.ownBlock] at hj
                omega
              · cases hj'
        have b2 : (pk == 2) = false := by simpa using p2
        by_cases p3 : pk = 3
        · subst p3
          have hlen : l.length ≤ 100000 := by have h := HM.out.2; omega
          go_wp2_with fail
          refine (Clone_any w2 HS2.out hlen).mono ?_
          rintro e w3 ⟨g3, v3, rfl, hf3, hs3, hg3, hv3⟩
          have HS3 := Lib.hid hs3
          have HF3 := Lib.hid hf3
          have HG3 := Lib.hid hg3
          clear hs3 hf3 hg3 hv3
          go_wp2_with fail
          rcases snoc_cases l with rfl | ⟨l0, x, rfl⟩
          · refine (Pop_of _ (pop_false _ (top_nil w3 HS3.out))).mono ?_
            rintro e w4 ⟨rfl, hf4⟩
            have HF4 := Lib.hid hf4
            clear hf4
            go_wp2_with fail
            go_meet
            case rel => exact Mid.nil ⟨v, [], HS2.out, Nat.zero_le _, HL2.out, HF2.out, HB.out, HAP.out⟩ (HF3.out.trans HF4.out)
          · refine (Pop_of _ (pop_snoc w3 (l := l0) (x := x) HS3.out (by simp at hlen; omega))).mono ?_
            rintro e w4 ⟨rfl, hf4, _⟩
            have HF4 := Lib.hid (HF3.out.then hf4 (fun j hj hlt => by have := HG3.out; omega))
            have HLM := Lib.hid hlm
            clear hf4 hlm
            go_wp2_with fail
            go_meet
            case rel => exact Mid.nil ⟨v, l0 ++ [x], HS2.out, HLM.out, HL2.out, HF2.out, HB.out, HAP.out⟩ HF4.out
        have b3 : (pk == 3) = false := by simpa using p3
        obtain ⟨A, c, hlv⟩ := HL2.out.shape
        subst hlv
        have hll : (l.length : Int) ≤ most := by omega
        have hmb : (m.length : Int) ≤ 6 := by omega
        have hL1 := Lib.hid (show ([] : List Int).length + l.length ≤ 1000000 by have h := HM.out.2; simp; omega)
        have hL2 := Lib.hid (show ([] ++ l : List Int).length + m.length ≤ 1000000 by have h := HM.out.2; simp; omega)
        by_cases hfull : most < l.length + m.length
        · have h1 : (most : Int) - l.length < m.length := by omega
          have HLM := Lib.hid (And.intro hlm hfull)
          have r2 := R2.out
          clear hlm hfull
          go_wp2_with fail
          refine (KF.out _ HF2.out).mono ?_
          rintro e w3 ⟨u3, rfl, hf3, ho3, _⟩
          obtain ⟨A4, c4, hu3⟩ := (ho3.sl EI_ok).shape
          subst hu3
          have HO3 := Lib.hid ho3
          have HF3 := Lib.hid hf3
          clear hf3 ho3
          go_wp2_with fail
          refine (Push_full w3 (HS2.out.nil HF3.out) (HO3.out.sl EI_ok).come HLM.out.2 HLM.out.1 HM.out.2).mono ?_
          rintro e w4 ⟨rfl, hf4⟩
          have HF4 := Lib.hid hf4
          clear hf4
          go_wp2_with fail
          go_meet
          case rel => exact Mid.nil ⟨v, l, HS2.out, HLM.out.1, HL2.out, HF2.out, HB.out, HAP.out⟩ (HF3.out.trans HF4.out)
        · have h1 : (m.length : Int) ≤ most - l.length := by omega
          have HLM := Lib.hid (show l.length + m.length ≤ most by omega)
          clear hlm hfull
          have hL2 := Lib.hid (show l.length + m.length ≤ 1000000 by have h := HM.out.2; omega)
          go_wp2_with (at_builtin; first
            | (refine wpList_app EI_ok rfl (.tmp 70) (.tmp 71) 28 rfl rfl w2.heap.size (.slice (some ⟨w2.heap.size, 0, none⟩) 0 0) (.slice A l.length c) [] l rfl (Own.made (Nat.le_refl _) rfl) rfl (HL2.out.come.fr (by (repeat' (with_reducible first | refine Fr.setCell ?_ (fun hlt => absurd hlt (by dsimp only; omega)) _ | refine Fr.alloc ?_ _ | refine Fr.drewN ?_ _ | refine Fr.drew ?_ | exact Fr.refl _ _)))) hL1.out (by simp) ?_; intro v5 w5 o1 o2 o3 o4; rw [List.nil_append] at o1; obtain ⟨A5, c5, hv5⟩ := (o1.sl EI_ok).shape; subst hv5; have HO5 := Lib.hid o1; have HF5 := Lib.hid (fr_new (w0 := w2) (by (repeat' (with_reducible first | refine Fr.setCell ?_ (fun hlt => absurd hlt (by dsimp only; omega)) _ | refine Fr.alloc ?_ _ | refine Fr.drewN ?_ _ | refine Fr.drew ?_ | exact Fr.refl _ _))) o2 (fun k hk => by simp [Value.ownBlock] at hk; omega)); clear o1 o2 o3 o4)
            | (refine wpList_app EI_ok rfl (.tmp 72) (.tmp 73) 28 rfl rfl w2.heap.size (.slice A5 l.length c5) (.slice A3 m.length c3) l m rfl HO5.out rfl ((HO2.out.sl EI_ok).come.fr HF5.out) hL2.out HF5.out.size ?_; intro v6 w6 o1 o2 o3 o4; obtain ⟨A6, c6, hv6⟩ := (o1.sl EI_ok).shape; subst hv6; have HO6 := Lib.hid o1; have HF6 := Lib.hid (fr_new HF5.out o2 (fun k hk => (HO5.out.lt k hk).1)); clear o1 o2 o3 o4; have r2 := (HF6.out.cell (World.block_lt_of_cell? w2 _ R2.out) id).trans R2.out))
          refine (KF.out _ (HF2.out.trans HF6.out)).mono ?_
          rintro e w7 ⟨u7', rfl, hf7, ho7, _⟩
          obtain ⟨A7, c7, hu7⟩ := (ho7.sl EI_ok).shape
          subst hu7
          have HO7 := Lib.hid ho7
          have HF7 := Lib.hid (HF6.out.trans hf7)
          have HX7 := Lib.hid hf7
          clear hf7 ho7 r2
          go_wp2_with fail
          refine (Push_fits w7 (HS2.out.nil HF7.out) (HO7.out.sl EI_ok).come HLM.out HM.out.2).mono ?_
          rintro e w8 ⟨rfl, hf8, v8, hs8, hm8⟩
          have HF8 := Lib.hid hf8
          have HS8 := Lib.hid hs8
          have HM8 := Lib.hid hm8
          clear hf8 hs8 hm8
          go_wp2_with fail
          go_meet
          case rel =>
            have hb6 : ∀ j, (Value.slice A6 (l ++ m).length c6).ownBlock = some j → ¬ Foot w.heap.size v j := fun j hj s => by
              have h1 := (HO6.out.lt j hj).1
              have h2 := HS2.out.lt j s
              omega
            rw [List.length_append] at hb6
            have ho6 := HO6.out
            rw [List.length_append] at ho6
            refine ⟨v8, l ++ m, HS8.out, by rw [List.length_append]; exact HLM.out, ((ho6.sl EI_ok).fr HX7.out).frS HF8.out hb6, (HF2.out.trans HF7.out).then HF8.out (fun j hj hlt => by have := HB.out j hj; omega), ?_, ?_⟩
            · rintro j (rfl | hj)
              · exact Nat.le_refl _
              · rcases HM8.out j hj with h | h
                · exact HB.out j (Or.inr h)
                · exact Nat.le_trans (HF2.out.trans HF7.out).size h
            · rintro j hj (rfl | hj')
              · exact hb6 _ hj (Or.inl rfl)
              · rcases HM8.out j hj' with h | h
                · exact hb6 j hj (Or.inr h)
                · have h1 := (ho6.lt j hj).2
                  have h2 := HX7.out.size
                  omega
      case rest =>
        clear HS2 HL2 HO2 HF2 R2 r1' HB HAP HF Q1 Q2 KF
        obtain ⟨v, l, hs, hlm, hl, hf, hb, hap⟩ := hcut
        have hlen : l.length ≤ 100000 := by have h := HM.out.2; omega
        have HLE := Lib.hid hlen
        have HS := Lib.hid hs
        have HLM := Lib.hid hlm
        have HL := Lib.hid hl
        have HF := Lib.hid hf
        have HB := Lib.hid hb
        have HAP := Lib.hid hap
        clear hs hlm hl hf hb hap
        rcases snoc_cases l with rfl | ⟨l0, x, rfl⟩
        · obtain ⟨A, c, hlv⟩ := HL.out.shape
          subst hlv
          go_wp2_with fail
          refine (Top_of wc (fun W hW => top_nil W (HS.out.nil hW))).mono ?_
          rintro e w3 ⟨rfl, hf3⟩
          have HF3 := Lib.hid hf3
          clear hf3
          go_wp2_with fail
          refine (rest_any w3 (HS.out.nil HF3.out) HLE.out).mono ?_
          rintro e w4 ⟨A4, c4, rfl, hf4, hs4⟩
          have HF4 := Lib.hid (HF3.out.trans hf4)
          have HS4 := Lib.hid hs4
          clear hf4 hs4
          go_wp2_with fail
          refine (same_any w4 HLE.out HS4.out (HL.out.fr HF4.out)).mono ?_
          rintro e w5 ⟨rfl, hf5⟩
          have HF5 := Lib.hid (HF4.out.trans hf5)
          clear hf5
          go_wp2_with fail
          refine (Len_any w5 (HS.out.nil HF5.out)).mono ?_
          rintro e w6 ⟨rfl, hf6⟩
          have HF6 := Lib.hid (HF5.out.trans hf6)
          clear hf6
          go_wp2_with fail
          go_roundw
          case rel => exact ⟨k + 1, by go_num, by omega, Mid.nil ⟨v, _, HS.out, HLM.out, HL.out, HF.out, HB.out, HAP.out⟩ HF6.out⟩
          case measure => simp [intOf]; omega
        · obtain ⟨b, ob, cb, hlv, hcb, hcell, hsl⟩ := last_of HL.out
          subst hlv
          have hl0 : l0.length ≤ 100000 := by simp at hlen; omega
          have hb0 : (0 : Int) ≤ (l0.length : Int) := by omega
          have hb1 : (l0.length : Int) ≤ 100000 := by omega
          have hb2 : (l0.length : Int) + 1 ≤ cb := by omega
          have HC := Lib.hid hcell
          clear hlen hsl hcell hcb
          go_wp2_with fail
          refine (Top_of wc (fun W hW => top_snoc W (HS.out.nil hW) (Nat.le_trans hl0 (by decide)))).mono ?_
          rintro e w3 ⟨rfl, hf3⟩
          have HF3 := Lib.hid hf3
          clear hf3
          go_wp2_with fail
          refine (rest_any w3 (HS.out.nil HF3.out) HLE.out).mono ?_
          rintro e w4 ⟨A4, c4, rfl, hf4, hs4⟩
          have HF4 := Lib.hid (HF3.out.trans hf4)
          simp only [List.length_append, List.length_singleton] at hs4
          have HS4 := Lib.hid hs4
          clear hf4 hs4
          go_wp2_with fail
          refine (same_any w4 HLE.out HS4.out (HL.out.fr HF4.out)).mono ?_
          rintro e w5 ⟨rfl, hf5⟩
          have HF5 := Lib.hid (HF4.out.trans hf5)
          clear hf5
          go_wp2_with fail
          refine (Len_any w5 (HS.out.nil HF5.out)).mono ?_
          rintro e w6 ⟨rfl, hf6⟩
          have HF6 := Lib.hid (HF5.out.trans hf6)
          clear hf6
          have hc6 := (HF6.out.cell (World.block_lt_of_cell? wc _ HC.out) id).trans HC.out
          go_wp2_with fail
          go_roundw
          case rel => exact ⟨k + 1, by go_num, by omega, Mid.nil ⟨v, _, HS.out, HLM.out, HL.out, HF.out, HB.out, HAP.out⟩ HF6.out⟩
          case measure => simp [intOf]; omega
    · have HF := Lib.hid hf
      clear hs hlm hl hf hb hap
      by_cases hk1 : k < acts.length
      · have j1 : (k : Int) < acts.length := by omega
        have j2 : (50 : Int) ≤ k := by omega
        go_wp2_with fail
        refine (lives_any wr).mono ?_
        rintro e w9 ⟨rfl, hf9⟩
        have HF9 := Lib.hid hf9
        clear hf9
        go_wp2_with fail
        exact bodyPost_ret (v := .bool true) (by simp [results, Try.results3, go_sem]) rfl ⟨rfl, HF.out.trans HF9.out⟩
      · have j1 : (acts.length : Int) ≤ k := by omega
        go_wp2_with fail
        refine (lives_any wr).mono ?_
        rintro e w9 ⟨rfl, hf9⟩
        have HF9 := Lib.hid hf9
        clear hf9
        go_wp2_with fail
        exact bodyPost_ret (v := .bool true) (by simp [results, Try.results3, go_sem]) rfl ⟨rfl, HF.out.trans HF9.out⟩

set_option maxRecDepth 100000 in
set_option maxHeartbeats 4000000 in
theorem plays_out (w : World) {acts : List Ac} {y : Value} {most : Int} (hm : most < 1 ∨ 65536 < most) (ha : Acts w y acts) :
    Calls Try.prog 3 #[.int .i64 most, y] w fun e w' => e = .returned (.bool true) ∧ Fr Nil w w' := by
  have HN := Lib.hid (New_no w most hm)
  obtain ⟨A0, c0, hy⟩ : ∃ A c, y = .slice A acts.length c := by
    rcases ha with ⟨rfl, rfl⟩ | ⟨a, cap, rfl, _⟩
    · exact ⟨_, _, rfl⟩
    · exact ⟨_, _, rfl⟩
  subst hy
  clear ha
  rcases hm with h | h
  · go_enter Try.func3, Try.ntmps3
    go_wp2_with fail
    refine HN.out.mono ?_
    rintro e w1 ⟨rfl, hf1⟩
    go_wp2_with fail
    refine (lives_any w1).mono ?_
    rintro e w2 ⟨rfl, hf2⟩
    have HF := Lib.hid (hf1.trans hf2)
    clear hf1 hf2
    go_wp2_with fail
    exact bodyPost_ret (v := .bool true) (by simp [results, Try.results3, go_sem]) rfl ⟨rfl, HF.out⟩
  · have h1 : 1 ≤ most := by omega
    go_enter Try.func3, Try.ntmps3
    go_wp2_with fail
    refine HN.out.mono ?_
    rintro e w1 ⟨rfl, hf1⟩
    go_wp2_with fail
    refine (lives_any w1).mono ?_
    rintro e w2 ⟨rfl, hf2⟩
    have HF := Lib.hid (hf1.trans hf2)
    clear hf1 hf2
    go_wp2_with fail
    exact bodyPost_ret (v := .bool true) (by simp [results, Try.results3, go_sem]) rfl ⟨rfl, HF.out⟩

theorem plays_any (w : World) {acts : List Ac} {y : Value} (most : Int) (ha : Acts w y acts) (hal : acts.length ≤ maxLen) :
    Calls Try.prog 3 #[.int .i64 most, y] w fun e w' => e = .returned (.bool true) ∧ Fr Nil w w' := by
  by_cases h : 1 ≤ most ∧ most ≤ 65536
  · obtain ⟨n, rfl⟩ := Int.eq_ofNat_of_zero_le (show 0 ≤ most by omega)
    exact plays_in w (by omega) (by omega) ha hal
  · exact plays_out w (by omega) ha
end Go.Proofs.Ytgibhgppfmbnaaa.StackG
