/- Chapter 41: Few in the laws' words; the law HullMerges. -/
import Derived.Test.YtalbaopfdejooaaHullT
import Derived.Test.YtalbaopfdejooaaAreaF
namespace Go.Proofs.Ytalbaopfdejooaa.HullU
open Go.RowKit Base Slices RowsA KernA KernE AreaA HullC HullD HullE HullF HullG HullH HullI HullJ HullK HullL HullR HullS HullT Quiet
set_option linter.unusedVariables false
set_option linter.unusedSimpArgs false

theorem few8 {l : List Pn} {v : Value} {w : World} (hl : l.length ≤ 8) (hv : Sl EPt w v l) : Calls Try.prog 8 #[v, .int .i64 8] w fun e w' => ∃ u, e = .returned u ∧ Fr Nil w w' ∧ Own EPt w' w.heap.size u l := by
  have h := few_any l 8 v w (by omega) hv.come
  rw [List.take_of_length_le hl] at h
  exact h
theorem few8c {l : List Pn} {v : Value} {w : World} (hv : Come EPt w v l) : Calls Try.prog 8 #[v, .int .i64 8] w fun e w' => ∃ u, e = .returned u ∧ Fr Nil w w' ∧ Own EPt w' w.heap.size u (l.take 8) := few_any l 8 v w (by omega) hv
theorem few12 {l : List Pn} {v : Value} {w : World} (hl : l.length ≤ 12) (hv : Sl EPt w v l) : Calls Try.prog 8 #[v, .int .i64 12] w fun e w' => ∃ u, e = .returned u ∧ Fr Nil w w' ∧ Own EPt w' w.heap.size u l := by
  have h := few_any l 12 v w (by omega) hv.come
  rw [List.take_of_length_le hl] at h
  exact h
theorem few12c {l : List Pn} {v : Value} {w : World} (hv : Come EPt w v l) : Calls Try.prog 8 #[v, .int .i64 12] w fun e w' => ∃ u, e = .returned u ∧ Fr Nil w w' ∧ Own EPt w' w.heap.size u (l.take 12) := few_any l 12 v w (by omega) hv
theorem few14 {l : List Pn} {v : Value} {w : World} (hl : l.length ≤ 14) (hv : Sl EPt w v l) : Calls Try.prog 8 #[v, .int .i64 14] w fun e w' => ∃ u, e = .returned u ∧ Fr Nil w w' ∧ Own EPt w' w.heap.size u l := by
  have h := few_any l 14 v w (by omega) hv.come
  rw [List.take_of_length_le hl] at h
  exact h
theorem few14c {l : List Pn} {v : Value} {w : World} (hv : Come EPt w v l) : Calls Try.prog 8 #[v, .int .i64 14] w fun e w' => ∃ u, e = .returned u ∧ Fr Nil w w' ∧ Own EPt w' w.heap.size u (l.take 14) := few_any l 14 v w (by omega) hv
theorem few20 {l : List Pn} {v : Value} {w : World} (hl : l.length ≤ 20) (hv : Sl EPt w v l) : Calls Try.prog 8 #[v, .int .i64 20] w fun e w' => ∃ u, e = .returned u ∧ Fr Nil w w' ∧ Own EPt w' w.heap.size u l := by
  have h := few_any l 20 v w (by omega) hv.come
  rw [List.take_of_length_le hl] at h
  exact h
theorem few20c {l : List Pn} {v : Value} {w : World} (hv : Come EPt w v l) : Calls Try.prog 8 #[v, .int .i64 20] w fun e w' => ∃ u, e = .returned u ∧ Fr Nil w w' ∧ Own EPt w' w.heap.size u (l.take 20) := few_any l 20 v w (by omega) hv
theorem all_good {l : List Pn} (h : l.all gd = true) : ∀ p ∈ l, gd p = true := List.all_eq_true.1 h
theorem all_bad {l : List Pn} (h : l.all gd = false) : ∃ p ∈ l, gd p = false := by
  obtain ⟨p, hp, hq⟩ := List.all_eq_false.1 h
  exact ⟨p, hp, by simpa using hq⟩
theorem lies {l : List Pn} (h : ∀ p ∈ l, gd p = true) : ∀ p ∈ l, lie p = true := fun p hp => gd_lie (h p hp)
theorem chk_same {l h : List Pn} (hg : ∀ p ∈ l, gd p = true) (hh : HullOf l h) : chk l = decide (l = h) := by
  rw [chk_good hg hh]
  by_cases e : h = l
  · rw [decide_eq_true e, decide_eq_true e.symm]
  · rw [decide_eq_false e, decide_eq_false (fun k => e k.symm)]

section
variable {α : Type} {P : Program} {E : El α}
/-- an append behind '&&' that is carried out -/
theorem wpList_appG (hE : E.Ok P) {ops : Array Oper} {rest : List Oper} {o : Oper} {a : Act} {Q : Exit → Act → World → Prop} {w : World} (hw : Region.wanted o (yielded ops a.tmps) = true) (s x : Operand) (t : TypeId)
    (ho : o.op = .call { callee := .builtin .append, args := #[s, x], argTypes := #[t, t] }) (ht : t = E.sl)
    (base : Nat) (v y : Value) (l1 l2 : List α) (hs : a.eval s = v) (hown : Own E w base v l1) (hx : a.eval x = y) (hy : Come E w y l2) (hl : l1.length + l2.length ≤ 1000000) (hbase : base ≤ w.heap.size)
    (h : ∀ v' w', Own E w' base v' (l1 ++ l2) → Fr (Slices.Of v) w w' → (∀ g, v'.ownBlock = some g → v.ownBlock = some g ∨ w.heap.size ≤ g) → (v' = .slice none 0 0 → v = .slice none 0 0) → wpList P ops Q rest (a.put o.dst v') w') : wpList P ops Q (o :: rest) a w :=
  wpList_step fun K hK => by
    rw [if_pos hw]
    exact wp_app hE s x t ho ht base v y l1 l2 hs hown hx hy hl hbase fun v' w' h1 h2 h3 h4 => hK _ _ (h v' w' h1 h2 h3 h4)
end

set_option maxRecDepth 100000 in
set_option maxHeartbeats 16000000 in
theorem merges_any (l0 m0 : List Pn) (va vb : Value) (w : World) (hva : Come EPt w va l0) (hvb : Come EPt w vb m0) :
    Calls Try.prog 3 #[va, vb] w fun e w' => e = .returned (.bool true) ∧ Fr Nil w w' := by
  have VA := Lib.hid hva
  have VB := Lib.hid hvb
  have HF := Lib.hid (Fr.refl Nil w)
  have KLV := Lib.hid (fun W => lives41 W)
  clear hva hvb
  go_enter Try.func3, Try.ntmps3
  go_wp2_with fail
  refine (few8c VA.out).mono ?_
  rintro e w1 ⟨u1, rfl, hf, ho⟩
  have SL := Lib.hid (ho.sl EPt_ok)
  replace VB := Lib.hid (VB.out.fr hf)
  replace HF := Lib.hid (HF.out.trans hf)
  clear hf ho VA
  go_wp2_with fail
  refine (few8c VB.out).mono ?_
  rintro e w2 ⟨u2, rfl, hf, ho⟩
  have SM := Lib.hid (ho.sl EPt_ok)
  replace SL := Lib.hid (SL.out.fr hf)
  replace HF := Lib.hid (HF.out.trans hf)
  clear hf ho VB
  have hll : (l0.take 8).length ≤ 8 := by rw [List.length_take]; omega
  have hml : (m0.take 8).length ≤ 8 := by rw [List.length_take]; omega
  generalize l0.take 8 = l at *
  generalize m0.take 8 = m at *
  go_wp2_with fail
  refine (allgood_any l u1 w2 (by omega) SL.out).mono ?_
  obtain ⟨za, hza⟩ : ∃ z, l.all gd = z := ⟨_, rfl⟩
  obtain ⟨zb, hzb⟩ : ∃ z, m.all gd = z := ⟨_, rfl⟩
  rw [hza]
  have ZA := Lib.hid hza
  have ZB := Lib.hid hzb
  clear hza hzb
  rintro e w3 ⟨rfl, hf⟩
  replace SL := Lib.hid (SL.out.fr hf)
  replace SM := Lib.hid (SM.out.fr hf)
  replace HF := Lib.hid (HF.out.trans hf)
  clear hf
  rcases za with _ | _
  case false =>
    have HZ := Lib.hid (all_bad ZA.out)
    clear ZA ZB
    go_wp2_with fail
    have BAD := Lib.hid (show ∃ p ∈ l ++ m, gd p = false from by obtain ⟨p, hp, hq⟩ := HZ.out; exact ⟨p, List.mem_append_left _ hp, hq⟩)
    refine (few8 hll SL.out).mono ?_
    rintro e wz1 ⟨u3, rfl, hf, ho⟩
    replace SL := Lib.hid (SL.out.fr hf)
    replace SM := Lib.hid (SM.out.fr hf)
    replace HF := Lib.hid (HF.out.trans hf)
    have SA := Lib.hid (ho.sl EPt_ok)
    clear ho hf
    go_wp2_with fail
    refine (few8 hml SM.out).mono ?_
    rintro e wz2 ⟨u4, rfl, hf, ho⟩
    replace SL := Lib.hid (SL.out.fr hf)
    replace SM := Lib.hid (SM.out.fr hf)
    replace SA := Lib.hid (SA.out.fr hf)
    replace HF := Lib.hid (HF.out.trans hf)
    have SB := Lib.hid (ho.sl EPt_ok)
    clear ho hf
    go_wp2_with fail
    refine (Merge_bad l m _ _ _ (by omega) (by omega) SA.out SB.out BAD.out).mono ?_
    rintro e wz3 ⟨rfl, hf⟩
    replace SL := Lib.hid (SL.out.fr hf)
    replace SM := Lib.hid (SM.out.fr hf)
    replace SA := Lib.hid (SA.out.fr hf)
    replace SB := Lib.hid (SB.out.fr hf)
    replace HF := Lib.hid (HF.out.trans hf)
    clear hf
    go_wp2_with fail
    refine (KLV.out _).mono ?_
    rintro e wz4 ⟨rfl, hf⟩
    replace SL := Lib.hid (SL.out.fr hf)
    replace SM := Lib.hid (SM.out.fr hf)
    replace SA := Lib.hid (SA.out.fr hf)
    replace SB := Lib.hid (SB.out.fr hf)
    replace HF := Lib.hid (HF.out.trans hf)
    clear hf
    go_wp2_with fail
    go_ret
    exact ⟨rfl, HF.out⟩
  go_wp2_with fail
  refine (allgood_any m u2 w3 (by omega) SM.out).mono ?_
  rw [ZB.out]
  rintro e w4 ⟨rfl, hf⟩
  replace SL := Lib.hid (SL.out.fr hf)
  replace SM := Lib.hid (SM.out.fr hf)
  replace HF := Lib.hid (HF.out.trans hf)
  clear hf
  rcases zb with _ | _
  case false =>
    have HZ := Lib.hid (all_bad ZB.out)
    clear ZA ZB
    go_wp2_with fail
    have BAD := Lib.hid (show ∃ p ∈ l ++ m, gd p = false from by obtain ⟨p, hp, hq⟩ := HZ.out; exact ⟨p, List.mem_append_right _ hp, hq⟩)
    refine (few8 hll SL.out).mono ?_
    rintro e wz1 ⟨u3, rfl, hf, ho⟩
    replace SL := Lib.hid (SL.out.fr hf)
    replace SM := Lib.hid (SM.out.fr hf)
    replace HF := Lib.hid (HF.out.trans hf)
    have SA := Lib.hid (ho.sl EPt_ok)
    clear ho hf
    go_wp2_with fail
    refine (few8 hml SM.out).mono ?_
    rintro e wz2 ⟨u4, rfl, hf, ho⟩
    replace SL := Lib.hid (SL.out.fr hf)
    replace SM := Lib.hid (SM.out.fr hf)
    replace SA := Lib.hid (SA.out.fr hf)
    replace HF := Lib.hid (HF.out.trans hf)
    have SB := Lib.hid (ho.sl EPt_ok)
    clear ho hf
    go_wp2_with fail
    refine (Merge_bad l m _ _ _ (by omega) (by omega) SA.out SB.out BAD.out).mono ?_
    rintro e wz3 ⟨rfl, hf⟩
    replace SL := Lib.hid (SL.out.fr hf)
    replace SM := Lib.hid (SM.out.fr hf)
    replace SA := Lib.hid (SA.out.fr hf)
    replace SB := Lib.hid (SB.out.fr hf)
    replace HF := Lib.hid (HF.out.trans hf)
    clear hf
    go_wp2_with fail
    refine (KLV.out _).mono ?_
    rintro e wz4 ⟨rfl, hf⟩
    replace SL := Lib.hid (SL.out.fr hf)
    replace SM := Lib.hid (SM.out.fr hf)
    replace SA := Lib.hid (SA.out.fr hf)
    replace SB := Lib.hid (SB.out.fr hf)
    replace HF := Lib.hid (HF.out.trans hf)
    clear hf
    go_wp2_with fail
    go_ret
    exact ⟨rfl, HF.out⟩
  have GL := Lib.hid (all_good ZA.out)
  have GM := Lib.hid (all_good ZB.out)
  have GLM := Lib.hid (show ∀ p ∈ l ++ m, gd p = true from fun p hp => by
    rcases List.mem_append.1 hp with h | h
    · exact GL.out p h
    · exact GM.out p h)
  clear ZA ZB
  go_wp2_with fail
  refine (few8 hll SL.out).mono ?_
  rintro e wz1 ⟨u3, rfl, hf, ho⟩
  replace SL := Lib.hid (SL.out.fr hf)
  replace SM := Lib.hid (SM.out.fr hf)
  replace HF := Lib.hid (HF.out.trans hf)
  have S3 := Lib.hid (ho.sl EPt_ok)
  clear ho hf
  go_wp2_with fail
  refine (Of_good l _ _ (by omega) S3.out GL.out).mono ?_
  rintro e wz2 ⟨ua, ha, rfl, hf, ho, hha⟩
  replace SL := Lib.hid (SL.out.fr hf)
  replace SM := Lib.hid (SM.out.fr hf)
  replace S3 := Lib.hid (S3.out.fr hf)
  replace HF := Lib.hid (HF.out.trans hf)
  have SA := Lib.hid (ho.sl EPt_ok)
  clear ho hf
  have HHA := Lib.hid hha
  have hal : ha.length ≤ 8 := Nat.le_trans (hull_len hha) hll
  clear hha S3
  go_wp2_with fail
  refine (few8 hml SM.out).mono ?_
  rintro e wz3 ⟨u4, rfl, hf, ho⟩
  replace SL := Lib.hid (SL.out.fr hf)
  replace SM := Lib.hid (SM.out.fr hf)
  replace SA := Lib.hid (SA.out.fr hf)
  replace HF := Lib.hid (HF.out.trans hf)
  have S4 := Lib.hid (ho.sl EPt_ok)
  clear ho hf
  go_wp2_with fail
  refine (Of_good m _ _ (by omega) S4.out GM.out).mono ?_
  rintro e wz4 ⟨ub, hb, rfl, hf, ho, hhb⟩
  replace SL := Lib.hid (SL.out.fr hf)
  replace SM := Lib.hid (SM.out.fr hf)
  replace SA := Lib.hid (SA.out.fr hf)
  replace S4 := Lib.hid (S4.out.fr hf)
  replace HF := Lib.hid (HF.out.trans hf)
  have SB := Lib.hid (ho.sl EPt_ok)
  clear ho hf
  have HHB := Lib.hid hhb
  have hbl : hb.length ≤ 8 := Nat.le_trans (hull_len hhb) hml
  clear hhb S4
  go_wp2_with fail
  refine (few20 (by omega) SA.out).mono ?_
  rintro e wz5 ⟨u5, rfl, hf, ho⟩
  replace SL := Lib.hid (SL.out.fr hf)
  replace SM := Lib.hid (SM.out.fr hf)
  replace SA := Lib.hid (SA.out.fr hf)
  replace SB := Lib.hid (SB.out.fr hf)
  replace HF := Lib.hid (HF.out.trans hf)
  have S5 := Lib.hid (ho.sl EPt_ok)
  clear ho hf
  go_wp2_with fail
  refine (few20 (by omega) SB.out).mono ?_
  rintro e wz6 ⟨u6, rfl, hf, ho⟩
  replace SL := Lib.hid (SL.out.fr hf)
  replace SM := Lib.hid (SM.out.fr hf)
  replace SA := Lib.hid (SA.out.fr hf)
  replace SB := Lib.hid (SB.out.fr hf)
  replace S5 := Lib.hid (S5.out.fr hf)
  replace HF := Lib.hid (HF.out.trans hf)
  have S6 := Lib.hid (ho.sl EPt_ok)
  clear ho hf
  have GAB := Lib.hid (show ∀ p ∈ ha ++ hb, gd p = true from fun p hp => by
    rcases List.mem_append.1 hp with h | h
    · exact GL.out p (hull_sub HHA.out p h)
    · exact GM.out p (hull_sub HHB.out p h))
  go_wp2_with fail
  refine (Merge_good ha hb _ _ _ (by omega) (by omega) S5.out S6.out GAB.out).mono ?_
  rintro e wz7 ⟨uc, hc, rfl, hf, ho, hhc⟩
  replace SL := Lib.hid (SL.out.fr hf)
  replace SM := Lib.hid (SM.out.fr hf)
  replace SA := Lib.hid (SA.out.fr hf)
  replace SB := Lib.hid (SB.out.fr hf)
  replace S5 := Lib.hid (S5.out.fr hf)
  replace S6 := Lib.hid (S6.out.fr hf)
  replace HF := Lib.hid (HF.out.trans hf)
  have SC := Lib.hid (ho.sl EPt_ok)
  clear ho hf
  have HHC := Lib.hid hhc
  have hcl : hc.length ≤ 16 := by have := hull_len hhc; rw [List.length_append] at this; omega
  clear hhc S5 S6 SA SB
  go_wp2_with fail
  refine (few8 hll SL.out).mono ?_
  rintro e wy ⟨u7, rfl, hf, ho⟩
  have SMY := Lib.hid ((SM.out.fr hf).come)
  have HO7 := Lib.hid ho
  have HFY := Lib.hid hf
  have hsz := hf.size
  obtain ⟨A7, c7, rfl⟩ := (ho.sl EPt_ok).shape
  clear hf ho
  go_wp2_with (at_builtin; refine wpList_appG EPt_ok (by rfl) (.tmp 71) (.tmp 72) 22 rfl rfl wz7.heap.size _ _ l m rfl HO7.out rfl SMY.out (by omega) hsz ?_; intro v8 w8 o8 f8 b8 m8; have hf : Fr Nil wz7 w8 := Fr.then HFY.out f8 (fun i hi hlt => by have := (HO7.out.lt i hi).1; omega); have S8 := Lib.hid (o8.sl EPt_ok); replace SL := Lib.hid (SL.out.fr hf); replace SC := Lib.hid (SC.out.fr hf); replace HF := Lib.hid (HF.out.trans hf); clear o8 f8 b8 m8 hf HO7 HFY SM SMY)
  refine (rof_any (l ++ m) _ _ (by simp; omega) (lies GLM.out) S8.out).mono ?_
  rintro e wz21 ⟨ur, hr, rfl, hf, ho, hhr⟩
  replace SL := Lib.hid (SL.out.fr hf)
  replace SC := Lib.hid (SC.out.fr hf)
  replace HF := Lib.hid (HF.out.trans hf)
  have SR := Lib.hid (ho.sl EPt_ok)
  clear ho hf
  obtain rfl : hr = hc := HullOf.unique (hull_merge HHA.out HHB.out hhr) HHC.out
  clear hhr S8
  go_wp2_with fail
  have KS := same_any hr hr uc ur wz21 (by omega) (by omega) SC.out SR.out
  rw [decide_eq_true rfl] at KS
  refine (KS).mono ?_
  rintro e wz22 ⟨rfl, hf⟩
  replace SL := Lib.hid (SL.out.fr hf)
  replace SC := Lib.hid (SC.out.fr hf)
  replace SR := Lib.hid (SR.out.fr hf)
  replace HF := Lib.hid (HF.out.trans hf)
  clear hf
  clear KS
  go_wp2_with fail
  refine (few8 hll SL.out).mono ?_
  rintro e wz23 ⟨u9, rfl, hf, ho⟩
  replace SL := Lib.hid (SL.out.fr hf)
  replace SC := Lib.hid (SC.out.fr hf)
  replace SR := Lib.hid (SR.out.fr hf)
  replace HF := Lib.hid (HF.out.trans hf)
  have S9 := Lib.hid (ho.sl EPt_ok)
  clear ho hf
  go_wp2_with fail
  have KC := Check_any l u9 wz23 (by omega) S9.out
  obtain ⟨z, hz⟩ : ∃ z, chk l = z := ⟨_, rfl⟩
  rw [hz] at KC
  have HZ := Lib.hid hz
  clear hz
  refine (KC).mono ?_
  rintro e wz24 ⟨rfl, hf⟩
  replace SL := Lib.hid (SL.out.fr hf)
  replace SC := Lib.hid (SC.out.fr hf)
  replace SR := Lib.hid (SR.out.fr hf)
  replace S9 := Lib.hid (S9.out.fr hf)
  replace HF := Lib.hid (HF.out.trans hf)
  clear hf
  clear KC
  go_wp2_with fail
  refine (rof_any l _ _ (by omega) (lies GL.out) SL.out).mono ?_
  rintro e wz25 ⟨ux, hx, rfl, hf, ho, hhx⟩
  replace SL := Lib.hid (SL.out.fr hf)
  replace SC := Lib.hid (SC.out.fr hf)
  replace SR := Lib.hid (SR.out.fr hf)
  replace S9 := Lib.hid (S9.out.fr hf)
  replace HF := Lib.hid (HF.out.trans hf)
  have SX := Lib.hid (ho.sl EPt_ok)
  clear ho hf
  have hxl := hull_len hhx
  have HXZ := Lib.hid (show decide (l = hx) = z by rw [← HZ.out]; exact (chk_same GL.out hhx).symm)
  clear hhx
  go_wp2_with fail
  have KS := same_any l hx u1 ux wz25 (by omega) (by omega) SL.out SX.out
  rw [HXZ.out] at KS
  refine (KS).mono ?_
  rintro e wz26 ⟨rfl, hf⟩
  replace SL := Lib.hid (SL.out.fr hf)
  replace SC := Lib.hid (SC.out.fr hf)
  replace SR := Lib.hid (SR.out.fr hf)
  replace S9 := Lib.hid (S9.out.fr hf)
  replace SX := Lib.hid (SX.out.fr hf)
  replace HF := Lib.hid (HF.out.trans hf)
  clear hf
  clear KS
  go_wp2_with fail
  refine (KLV.out _).mono ?_
  rintro e wz27 ⟨rfl, hf⟩
  replace SL := Lib.hid (SL.out.fr hf)
  replace SC := Lib.hid (SC.out.fr hf)
  replace SR := Lib.hid (SR.out.fr hf)
  replace S9 := Lib.hid (S9.out.fr hf)
  replace SX := Lib.hid (SX.out.fr hf)
  replace HF := Lib.hid (HF.out.trans hf)
  clear hf
  go_wp2_with fail
  go_ret
  exact ⟨rfl, HF.out⟩
end Go.Proofs.Ytalbaopfdejooaa.HullU
