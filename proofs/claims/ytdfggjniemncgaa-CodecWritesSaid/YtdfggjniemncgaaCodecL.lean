/- Chapter 29: the walks of Same, of the law CodecApart. -/
import Derived.Test.YtdfggjniemncgaaCodecP
import Derived.Test.YtdfggjniemncgaaCodecH
import Derived.RegionTactic
namespace Go.Proofs.Ytdfggjniemncgaa.CodecL
open Go.RowKit Base Big Slices VintA VintB VintC VintD CodecA CodecB CodecC CodecI CodecJ CodecK CodecP CodecG Quiet
set_option linter.unusedVariables false
set_option linter.unusedSimpArgs false

/-- a load under a guard that says yes -/
theorem wpList_loadQW {w : World} {g : Nat} {q : Rq} {ops : Array Oper} {rest : List Oper} {a : Act} {Q : Exit → Act → World → Prop} {dst : Option Tmp} {x : Operand} {ty : TypeId} {pos : String} {aft : Array Edge} {gd : Option (Nat × Bool)}
    (hw : Region.wanted ⟨dst, .load 36 x, ty, pos, aft, gd⟩ (yielded ops a.tmps) = true) (hx : a.eval x = .pointer (some ⟨g, 0, none⟩)) (hB : Bk w g 36 (qc q)) (h : wpList Try.prog ops Q rest (a.put dst (.agg (qc q))) w) : wpList Try.prog ops Q (⟨dst, .load 36 x, ty, pos, aft, gd⟩ :: rest) a w :=
  wpList_step fun K hK => by
    rw [if_pos hw]
    obtain ⟨⟨fs, hu⟩, hi⟩ := Try.req_str
    exact wp_load_row 36 x rfl g hx 36 (qc q) (0, 0) _ hB hu rfl hi (hK _ _ h)

section
variable (w : World)
set_option maxHeartbeats 1000000 in
theorem Same_any (x y : Rq) : Calls Try.prog 16 #[.agg (qc x), .agg (qc y)] w fun e w' => e = .returned (.bool (decide (qi (onlyQ x) = qi (onlyQ y)))) ∧ Fr Nil w w' := by
  have HA := Lib.hid ((Bk.new w 36 (qc x)).alloc (.cells (qc y) 36))
  have HB := Lib.hid (new' (g := w.heap.size + 1) (w := w.alloc (.cells (qc x) 36)) (t := 36) (cs := qc y) (by simp))
  have G0 := Lib.hid (((Fr.refl Nil w).alloc (.cells (qc x) 36)).alloc (.cells (qc y) 36))
  have KX := Lib.hid (fun W => only_any W x)
  have KY := Lib.hid (fun W => only_any W y)
  generalize onlyQ x = ox at *
  generalize onlyQ y = oy at *
  generalize hb : decide (qi ox = qi oy) = b
  have HE := Lib.hid hb
  clear hb
  go_enter Try.func16, Try.ntmps16
  go_wp2_with fail
  · generalize ((w.alloc (.cells (qc x) 36)).alloc (.cells (qc y) 36)) = w1 at *
    refine wp_region_held (S := fun w' => Bk w' w.heap.size 36 (qc x) ∧ Bk w' (w.heap.size + 1) 36 (qc y)) (by kernel_rfl) ?_
    have hS0 := And.intro HA.out.drew HB.out.drew
    refine wpAnyH_take (i := 0) (v := .agg (qc x)) rfl (by kernel_rfl) (by kernel_rfl) (by kernel_rfl) (fun _ _ _ h => h) (yields_load rfl Try.req_str (fun _ h => h.1) rfl) hS0 ?_
    refine wpAnyH_take (i := 2) (v := .agg (qc y)) rfl (by kernel_rfl) (by kernel_rfl) (by kernel_rfl) (fun _ _ _ h => h) (yields_load rfl Try.req_str (fun _ h => h.2) rfl) hS0 ?_
    try simp only [Act.put, List.getElem_toArray, List.getElem_cons_zero, List.getElem_cons_succ, List.setIfInBounds_toArray, List.set_cons_zero, List.set_cons_succ]
    refine wpAnyH_all (rs := [1]) (by kernel_rfl) (by simp) (fun i hi => ?_)
    obtain rfl : i = 1 := by simpa using hi
    refine wpOp_step rfl (fun K hK => ?_)
    go_simp
    refine (KX.out _).mono ?_
    rintro e w2 ⟨rfl, hf2⟩
    have hS2 := And.intro (HA.out.drew.fr hf2 id) (HB.out.drew.fr hf2 id)
    refine hK _ _ ⟨hS2, ?_⟩
    clear hK K hi
    try simp only [Act.put, List.getElem_toArray, List.getElem_cons_zero, List.getElem_cons_succ, List.setIfInBounds_toArray, List.set_cons_zero, List.set_cons_succ]
    refine wpAnyH_all (rs := [3]) (by kernel_rfl) (by simp) (fun i hi => ?_)
    obtain rfl : i = 3 := by simpa using hi
    refine wpOp_step rfl (fun K hK => ?_)
    go_simp
    refine (KY.out _).mono ?_
    rintro e w3 ⟨rfl, hf3⟩
    have hS3 := And.intro ((HA.out.drew.fr hf2 id).fr hf3 id) ((HB.out.drew.fr hf2 id).fr hf3 id)
    refine hK _ _ ⟨hS3, ?_⟩
    clear hK K hi
    try simp only [Act.put, List.getElem_toArray, List.getElem_cons_zero, List.getElem_cons_succ, List.setIfInBounds_toArray, List.set_cons_zero, List.set_cons_succ]
    refine wpAnyH_take (i := 4) (v := .bool b) rfl (by kernel_rfl) (by kernel_rfl) (by kernel_rfl) (fun _ _ _ h => h) (Or.inl ⟨by rfl, fun w' _ => by rw [← HE.out]; exact exec_eq w' _ ox oy rfl rfl⟩) hS3 ?_
    refine wpAnyH_take (i := 5) (v := .bool b) rfl (by kernel_rfl) (by kernel_rfl) (by kernel_rfl) (fun _ _ _ h => h) (Or.inl ⟨by rfl, fun w' hw' => by first | (go_simp; done) | (go_simp; rfl)⟩) hS3 ?_
    refine wpAnyH_done (by kernel_rfl) ?_ _
    go_wp2_with fail
    go_ret
    exact ⟨rfl, G0.out.drew.trans (hf2.trans hf3)⟩

set_option maxHeartbeats 2000000 in
theorem apart_gg (r s : Rq) (lr : Long r) (ls : Long s) (gr : GoodQ r) (gs : GoodQ s) : Calls Try.prog 5 #[.agg (qc r), .agg (qc s)] w fun e w' => e = .returned (.bool true) ∧ Fr Nil w w' := by
  have HA := Lib.hid ((Bk.new w 36 (qc r)).alloc (.cells (qc s) 36))
  have HB := Lib.hid (new' (g := w.heap.size + 1) (w := w.alloc (.cells (qc r) 36)) (t := 36) (cs := qc s) (by simp))
  have G0 := Lib.hid (((Fr.refl Nil w).alloc (.cells (qc r) 36)).alloc (.cells (qc s) 36))
  have KR := Lib.hid (fun W => (show Calls Try.prog 15 #[.agg (qc r)] W fun e w' => ∃ u, e = .returned (.tuple #[u, .int .i64 0]) ∧ Fr Nil W w' ∧ Own EB w' W.heap.size u (encB r) from Encode_ok W r gr lr))
  have KGR := Lib.hid (fun W => (refgood_any W r).mono fun e w' h => (show e = .returned (.bool true) ∧ Fr Nil W w' by obtain ⟨⟨b, rfl, hb⟩, hf⟩ := h; refine ⟨?_, hf⟩; cases b with | true => rfl | false => exact absurd (hb.2 gr) (by simp)))
  have KS' := Lib.hid (fun W => (show Calls Try.prog 15 #[.agg (qc s)] W fun e w' => ∃ u, e = .returned (.tuple #[u, .int .i64 0]) ∧ Fr Nil W w' ∧ Own EB w' W.heap.size u (encB s) from Encode_ok W s gs ls))
  have KGS := Lib.hid (fun W => (refgood_any W s).mono fun e w' h => (show e = .returned (.bool true) ∧ Fr Nil W w' by obtain ⟨⟨b, rfl, hb⟩, hf⟩ := h; refine ⟨?_, hf⟩; cases b with | true => rfl | false => exact absurd (hb.2 gs) (by simp)))
  have KL := Lib.hid (fun W => lives_true W)
  have hse := str_dec (enc_bytes gr) (enc_bytes gs)
  have KS := Lib.hid (fun W => Same_any W r s)
  have hbb : decide (encB r = encB s) = decide (qi (onlyQ r) = qi (onlyQ s)) := by
    by_cases h : encB r = encB s
    · rw [decide_eq_true h, decide_eq_true ((apart gr gs lr ls).1 h)]
    · rw [decide_eq_false h, decide_eq_false (fun h' => h ((apart gr gs lr ls).2 h'))]
  rw [hbb] at hse
  generalize decide (qi (onlyQ r) = qi (onlyQ s)) = b at *
  have HCV := Lib.hid (fun W (u : Value) (l : List Int) (h : Come EB W u l) => conv_any W h)
  clear gr gs lr ls hbb
  go_enter Try.func5, Try.ntmps5
  go_wp2_with (first
    | (with_reducible refine wpList_loadQ (dst := some 10) ?_ HA.out ?_); rfl)
  refine (KR.out _).mono ?_
  rintro e w1 ⟨u1, rfl, hf1, ho1⟩
  have HU1 := Lib.hid (ho1.sl EB_ok).come
  clear ho1
  have HA1 := Lib.hid (HA.out.fr hf1 id)
  have HB1 := Lib.hid (HB.out.fr hf1 id)
  have HF1 := Lib.hid (G0.out.trans hf1)
  clear hf1
  go_wp2_with (first
    | (with_reducible refine wpList_loadQ (dst := some 15) ?_ HB1.out ?_); rfl)
  refine (KS'.out _).mono ?_
  rintro e w2 ⟨u2, rfl, hf2, ho2⟩
  have HU2 := Lib.hid (ho2.sl EB_ok).come
  clear ho2
  have HA2 := Lib.hid (HA1.out.fr hf2 id)
  have HB2 := Lib.hid (HB1.out.fr hf2 id)
  have HF2 := Lib.hid (HF1.out.trans hf2)
  have HV1 := Lib.hid (HU1.out.fr hf2)
  clear hf2
  go_wp2_with fail
  · refine wp_region_held (S := fun w' => (Bk w' w.heap.size 36 (qc r) ∧ Bk w' (w.heap.size + 1) 36 (qc s)) ∧ Come EB w' u1 (encB r) ∧ Come EB w' u2 (encB s)) (by kernel_rfl) ?_
    have hS0 := And.intro (And.intro HA2.out.drew HB2.out.drew) (And.intro (HV1.out.fr ((Fr.refl Nil w2).drew)) (HU2.out.fr ((Fr.refl Nil w2).drew)))
    refine wpAnyH_take (i := 0) (v := u1) rfl (by kernel_rfl) (by kernel_rfl) (by kernel_rfl) (fun _ _ _ h => h) (Or.inl ⟨by rfl, fun w' hw' => by first | (go_simp; done) | (go_simp; rfl)⟩) hS0 ?_
    refine wpAnyH_take (i := 1) (v := .string (strOfNums (encB r))) rfl (by kernel_rfl) (by kernel_rfl) (by kernel_rfl) (fun _ _ _ h => h) (Or.inl ⟨by rfl, fun w' hw' => by have he := HCV.out w' _ _ hw'.2.1; first | (go_simp; done) | (go_simp; rfl)⟩) hS0 ?_
    refine wpAnyH_take (i := 2) (v := u2) rfl (by kernel_rfl) (by kernel_rfl) (by kernel_rfl) (fun _ _ _ h => h) (Or.inl ⟨by rfl, fun w' hw' => by first | (go_simp; done) | (go_simp; rfl)⟩) hS0 ?_
    refine wpAnyH_take (i := 3) (v := .string (strOfNums (encB s))) rfl (by kernel_rfl) (by kernel_rfl) (by kernel_rfl) (fun _ _ _ h => h) (Or.inl ⟨by rfl, fun w' hw' => by have he := HCV.out w' _ _ hw'.2.2; first | (go_simp; done) | (go_simp; rfl)⟩) hS0 ?_
    refine wpAnyH_take (i := 4) (v := .bool b) rfl (by kernel_rfl) (by kernel_rfl) (by kernel_rfl) (fun _ _ _ h => h) (Or.inl ⟨by rfl, fun w' hw' => by first | (go_simp; done) | (go_simp; rfl)⟩) hS0 ?_
    refine wpAnyH_take (i := 5) (v := .agg (qc r)) rfl (by kernel_rfl) (by kernel_rfl) (by kernel_rfl) (fun _ _ _ h => h) (yields_load rfl Try.req_str (fun _ h => h.1.1) rfl) hS0 ?_
    refine wpAnyH_take (i := 6) (v := .agg (qc s)) rfl (by kernel_rfl) (by kernel_rfl) (by kernel_rfl) (fun _ _ _ h => h) (yields_load rfl Try.req_str (fun _ h => h.1.2) rfl) hS0 ?_
    try simp only [Act.put, List.getElem_toArray, List.getElem_cons_zero, List.getElem_cons_succ, List.setIfInBounds_toArray, List.set_cons_zero, List.set_cons_succ]
    refine wpAnyH_all (rs := [7]) (by kernel_rfl) (by simp) (fun i hi => ?_)
    obtain rfl : i = 7 := by simpa using hi
    refine wpOp_step rfl (fun K hK => ?_)
    go_simp
    refine (KS.out _).mono ?_
    rintro e w3 ⟨rfl, hf3⟩
    have hS3 := And.intro (And.intro (HA2.out.drew.fr hf3 id) (HB2.out.drew.fr hf3 id)) (And.intro ((HV1.out.fr ((Fr.refl Nil w2).drew)).fr hf3) ((HU2.out.fr ((Fr.refl Nil w2).drew)).fr hf3))
    refine hK _ _ ⟨hS3, ?_⟩
    clear hK K hi
    try simp only [Act.put, List.getElem_toArray, List.getElem_cons_zero, List.getElem_cons_succ, List.setIfInBounds_toArray, List.set_cons_zero, List.set_cons_succ]
    refine wpAnyH_take (i := 8) (v := .bool true) rfl (by kernel_rfl) (by kernel_rfl) (by kernel_rfl) (fun _ _ _ h => h) (Or.inl ⟨by rfl, fun w' hw' => by first | (go_simp; done) | (go_simp; rfl)⟩) hS3 ?_
    refine wpAnyH_take (i := 9) (v := .bool true) rfl (by kernel_rfl) (by kernel_rfl) (by kernel_rfl) (fun _ _ _ h => h) (Or.inl ⟨by rfl, fun w' hw' => by first | (go_simp; done) | (go_simp; rfl)⟩) hS3 ?_
    try simp only [Act.put, List.getElem_toArray, List.getElem_cons_zero, List.getElem_cons_succ, List.setIfInBounds_toArray, List.set_cons_zero, List.set_cons_succ]
    refine wpAnyH_all (rs := [10]) (by kernel_rfl) (by simp) (fun i hi => ?_)
    obtain rfl : i = 10 := by simpa using hi
    refine wpOp_step rfl (fun K hK => ?_)
    go_simp
    refine (KL.out _).mono ?_
    rintro e w4 ⟨rfl, hf4⟩
    have hS4 := And.intro (And.intro ((HA2.out.drew.fr hf3 id).fr hf4 id) ((HB2.out.drew.fr hf3 id).fr hf4 id)) (And.intro (((HV1.out.fr ((Fr.refl Nil w2).drew)).fr hf3).fr hf4) (((HU2.out.fr ((Fr.refl Nil w2).drew)).fr hf3).fr hf4))
    refine hK _ _ ⟨hS4, ?_⟩
    clear hK K hi
    try simp only [Act.put, List.getElem_toArray, List.getElem_cons_zero, List.getElem_cons_succ, List.setIfInBounds_toArray, List.set_cons_zero, List.set_cons_succ]
    refine wpAnyH_take (i := 11) (v := .bool true) rfl (by kernel_rfl) (by kernel_rfl) (by kernel_rfl) (fun _ _ _ h => h) (Or.inl ⟨by rfl, fun w' hw' => by first | (go_simp; done) | (go_simp; rfl)⟩) hS4 ?_
    refine wpAnyH_take (i := 12) (v := .bool true) rfl (by kernel_rfl) (by kernel_rfl) (by kernel_rfl) (fun _ _ _ h => h) (Or.inl ⟨by rfl, fun w' hw' => by first | (go_simp; done) | (go_simp; rfl)⟩) hS4 ?_
    refine wpAnyH_done (by kernel_rfl) ?_ _
    go_wp2_with fail
    go_ret
    exact ⟨rfl, HF2.out.drew.trans (hf3.trans hf4)⟩
set_option maxHeartbeats 2000000 in
theorem apart_gb (r s : Rq) (lr : Long r) (ls : Long s) (gr : GoodQ r) (gs : ¬ GoodQ s) : Calls Try.prog 5 #[.agg (qc r), .agg (qc s)] w fun e w' => e = .returned (.bool true) ∧ Fr Nil w w' := by
  have HA := Lib.hid ((Bk.new w 36 (qc r)).alloc (.cells (qc s) 36))
  have HB := Lib.hid (new' (g := w.heap.size + 1) (w := w.alloc (.cells (qc r) 36)) (t := 36) (cs := qc s) (by simp))
  have G0 := Lib.hid (((Fr.refl Nil w).alloc (.cells (qc r) 36)).alloc (.cells (qc s) 36))
  have KR := Lib.hid (fun W => (show Calls Try.prog 15 #[.agg (qc r)] W fun e w' => ∃ u, e = .returned (.tuple #[u, .int .i64 0]) ∧ Fr Nil W w' ∧ Own EB w' W.heap.size u (encB r) from Encode_ok W r gr lr))
  have KGR := Lib.hid (fun W => (refgood_any W r).mono fun e w' h => (show e = .returned (.bool true) ∧ Fr Nil W w' by obtain ⟨⟨b, rfl, hb⟩, hf⟩ := h; refine ⟨?_, hf⟩; cases b with | true => rfl | false => exact absurd (hb.2 gr) (by simp)))
  have KS' := Lib.hid (fun W => (show Calls Try.prog 15 #[.agg (qc s)] W fun e w' => e = .returned (.tuple #[.slice none 0 0, .int .i64 8]) ∧ Fr Nil W w' from Encode_bad W s gs))
  have KGS := Lib.hid (fun W => (refgood_any W s).mono fun e w' h => (show e = .returned (.bool false) ∧ Fr Nil W w' by obtain ⟨⟨b, rfl, hb⟩, hf⟩ := h; refine ⟨?_, hf⟩; cases b with | true => exact absurd (hb.1 rfl) gs | false => rfl))
  have KL := Lib.hid (fun W => lives_true W)
  clear gr gs lr ls
  go_enter Try.func5, Try.ntmps5
  go_wp2_with (first
    | (with_reducible refine wpList_loadQ (dst := some 10) ?_ HA.out ?_); rfl)
  refine (KR.out _).mono ?_
  rintro e w1 ⟨u1, rfl, hf1, ho1⟩
  have HU1 := Lib.hid (ho1.sl EB_ok).come
  clear ho1
  have HA1 := Lib.hid (HA.out.fr hf1 id)
  have HB1 := Lib.hid (HB.out.fr hf1 id)
  have HF1 := Lib.hid (G0.out.trans hf1)
  clear hf1
  go_wp2_with (first
    | (with_reducible refine wpList_loadQ (dst := some 15) ?_ HB1.out ?_); rfl)
  refine (KS'.out _).mono ?_
  rintro e w2 ⟨rfl, hf2⟩
  have HA2 := Lib.hid (HA1.out.fr hf2 id)
  have HB2 := Lib.hid (HB1.out.fr hf2 id)
  have HF2 := Lib.hid (HF1.out.trans hf2)
  clear hf2
  go_wp2_with (first
    | (with_reducible refine wpList_loadQ (dst := some 25) ?_ HA2.out ?_); rfl)
  refine (KGR.out _).mono ?_
  rintro e w3 ⟨rfl, hf3⟩
  have HB3 := Lib.hid (HB2.out.fr hf3 id)
  have HF3 := Lib.hid (HF2.out.trans hf3)
  clear hf3
  go_wp2_with (first
    | (with_reducible refine wpList_loadQW (dst := some 29) ?_ ?_ HB3.out ?_); rfl; rfl)
  refine (KGS.out _).mono ?_
  rintro e w4 ⟨rfl, hf4⟩
  have HF4 := Lib.hid (HF3.out.trans hf4)
  clear hf4
  go_wp2_with fail
  refine (KL.out _).mono ?_
  rintro e w5 ⟨rfl, hf5⟩
  have HF5 := Lib.hid (HF4.out.trans hf5)
  clear hf5
  go_wp2_with fail
  go_ret
  exact ⟨rfl, HF5.out⟩
set_option maxHeartbeats 2000000 in
theorem apart_bg (r s : Rq) (lr : Long r) (ls : Long s) (gr : ¬ GoodQ r) (gs : GoodQ s) : Calls Try.prog 5 #[.agg (qc r), .agg (qc s)] w fun e w' => e = .returned (.bool true) ∧ Fr Nil w w' := by
  have HA := Lib.hid ((Bk.new w 36 (qc r)).alloc (.cells (qc s) 36))
  have HB := Lib.hid (new' (g := w.heap.size + 1) (w := w.alloc (.cells (qc r) 36)) (t := 36) (cs := qc s) (by simp))
  have G0 := Lib.hid (((Fr.refl Nil w).alloc (.cells (qc r) 36)).alloc (.cells (qc s) 36))
  have KR := Lib.hid (fun W => (show Calls Try.prog 15 #[.agg (qc r)] W fun e w' => e = .returned (.tuple #[.slice none 0 0, .int .i64 8]) ∧ Fr Nil W w' from Encode_bad W r gr))
  have KGR := Lib.hid (fun W => (refgood_any W r).mono fun e w' h => (show e = .returned (.bool false) ∧ Fr Nil W w' by obtain ⟨⟨b, rfl, hb⟩, hf⟩ := h; refine ⟨?_, hf⟩; cases b with | true => exact absurd (hb.1 rfl) gr | false => rfl))
  have KS' := Lib.hid (fun W => (show Calls Try.prog 15 #[.agg (qc s)] W fun e w' => ∃ u, e = .returned (.tuple #[u, .int .i64 0]) ∧ Fr Nil W w' ∧ Own EB w' W.heap.size u (encB s) from Encode_ok W s gs ls))
  have KGS := Lib.hid (fun W => (refgood_any W s).mono fun e w' h => (show e = .returned (.bool true) ∧ Fr Nil W w' by obtain ⟨⟨b, rfl, hb⟩, hf⟩ := h; refine ⟨?_, hf⟩; cases b with | true => rfl | false => exact absurd (hb.2 gs) (by simp)))
  have KL := Lib.hid (fun W => lives_true W)
  clear gr gs lr ls
  go_enter Try.func5, Try.ntmps5
  go_wp2_with (first
    | (with_reducible refine wpList_loadQ (dst := some 10) ?_ HA.out ?_); rfl)
  refine (KR.out _).mono ?_
  rintro e w1 ⟨rfl, hf1⟩
  have HA1 := Lib.hid (HA.out.fr hf1 id)
  have HB1 := Lib.hid (HB.out.fr hf1 id)
  have HF1 := Lib.hid (G0.out.trans hf1)
  clear hf1
  go_wp2_with (first
    | (with_reducible refine wpList_loadQ (dst := some 15) ?_ HB1.out ?_); rfl)
  refine (KS'.out _).mono ?_
  rintro e w2 ⟨u2, rfl, hf2, ho2⟩
  have HU2 := Lib.hid (ho2.sl EB_ok).come
  clear ho2
  have HA2 := Lib.hid (HA1.out.fr hf2 id)
  have HB2 := Lib.hid (HB1.out.fr hf2 id)
  have HF2 := Lib.hid (HF1.out.trans hf2)
  clear hf2
  go_wp2_with (first
    | (with_reducible refine wpList_loadQ (dst := some 25) ?_ HA2.out ?_); rfl)
  refine (KGR.out _).mono ?_
  rintro e w3 ⟨rfl, hf3⟩
  have HB3 := Lib.hid (HB2.out.fr hf3 id)
  have HF3 := Lib.hid (HF2.out.trans hf3)
  clear hf3
  go_wp2_with fail
  refine (KL.out _).mono ?_
  rintro e w5 ⟨rfl, hf5⟩
  have HF5 := Lib.hid (HF3.out.trans hf5)
  clear hf5
  go_wp2_with fail
  go_ret
  exact ⟨rfl, HF5.out⟩
set_option maxHeartbeats 2000000 in
theorem apart_bb (r s : Rq) (lr : Long r) (ls : Long s) (gr : ¬ GoodQ r) (gs : ¬ GoodQ s) : Calls Try.prog 5 #[.agg (qc r), .agg (qc s)] w fun e w' => e = .returned (.bool true) ∧ Fr Nil w w' := by
  have HA := Lib.hid ((Bk.new w 36 (qc r)).alloc (.cells (qc s) 36))
  have HB := Lib.hid (new' (g := w.heap.size + 1) (w := w.alloc (.cells (qc r) 36)) (t := 36) (cs := qc s) (by simp))
  have G0 := Lib.hid (((Fr.refl Nil w).alloc (.cells (qc r) 36)).alloc (.cells (qc s) 36))
  have KR := Lib.hid (fun W => (show Calls Try.prog 15 #[.agg (qc r)] W fun e w' => e = .returned (.tuple #[.slice none 0 0, .int .i64 8]) ∧ Fr Nil W w' from Encode_bad W r gr))
  have KGR := Lib.hid (fun W => (refgood_any W r).mono fun e w' h => (show e = .returned (.bool false) ∧ Fr Nil W w' by obtain ⟨⟨b, rfl, hb⟩, hf⟩ := h; refine ⟨?_, hf⟩; cases b with | true => exact absurd (hb.1 rfl) gr | false => rfl))
  have KS' := Lib.hid (fun W => (show Calls Try.prog 15 #[.agg (qc s)] W fun e w' => e = .returned (.tuple #[.slice none 0 0, .int .i64 8]) ∧ Fr Nil W w' from Encode_bad W s gs))
  have KGS := Lib.hid (fun W => (refgood_any W s).mono fun e w' h => (show e = .returned (.bool false) ∧ Fr Nil W w' by obtain ⟨⟨b, rfl, hb⟩, hf⟩ := h; refine ⟨?_, hf⟩; cases b with | true => exact absurd (hb.1 rfl) gs | false => rfl))
  have KL := Lib.hid (fun W => lives_true W)
  clear gr gs lr ls
  go_enter Try.func5, Try.ntmps5
  go_wp2_with (first
    | (with_reducible refine wpList_loadQ (dst := some 10) ?_ HA.out ?_); rfl)
  refine (KR.out _).mono ?_
  rintro e w1 ⟨rfl, hf1⟩
  have HA1 := Lib.hid (HA.out.fr hf1 id)
  have HB1 := Lib.hid (HB.out.fr hf1 id)
  have HF1 := Lib.hid (G0.out.trans hf1)
  clear hf1
  go_wp2_with (first
    | (with_reducible refine wpList_loadQ (dst := some 15) ?_ HB1.out ?_); rfl)
  refine (KS'.out _).mono ?_
  rintro e w2 ⟨rfl, hf2⟩
  have HA2 := Lib.hid (HA1.out.fr hf2 id)
  have HB2 := Lib.hid (HB1.out.fr hf2 id)
  have HF2 := Lib.hid (HF1.out.trans hf2)
  clear hf2
  go_wp2_with (first
    | (with_reducible refine wpList_loadQ (dst := some 25) ?_ HA2.out ?_); rfl)
  refine (KGR.out _).mono ?_
  rintro e w3 ⟨rfl, hf3⟩
  have HB3 := Lib.hid (HB2.out.fr hf3 id)
  have HF3 := Lib.hid (HF2.out.trans hf3)
  clear hf3
  go_wp2_with fail
  refine (KL.out _).mono ?_
  rintro e w5 ⟨rfl, hf5⟩
  have HF5 := Lib.hid (HF3.out.trans hf5)
  clear hf5
  go_wp2_with fail
  go_ret
  exact ⟨rfl, HF5.out⟩
theorem long_of {k ck p0 p1 p2 s0 s1 s2 qk x1 x2 y1 y2 v1 v2 v3 x h : Int} (hk0 : IntKind.i64.min ≤ k) (hk1 : k ≤ IntKind.i64.max) (hck0 : IntKind.i64.min ≤ ck) (hck1 : ck ≤ IntKind.i64.max) (hp00 : IntKind.i64.min ≤ p0) (hp01 : p0 ≤ IntKind.i64.max) (hp10 : IntKind.i64.min ≤ p1) (hp11 : p1 ≤ IntKind.i64.max) (hp20 : IntKind.i64.min ≤ p2) (hp21 : p2 ≤ IntKind.i64.max) (hs00 : IntKind.i64.min ≤ s0) (hs01 : s0 ≤ IntKind.i64.max) (hs10 : IntKind.i64.min ≤ s1) (hs11 : s1 ≤ IntKind.i64.max) (hs20 : IntKind.i64.min ≤ s2) (hs21 : s2 ≤ IntKind.i64.max) (hqk0 : IntKind.i64.min ≤ qk) (hqk1 : qk ≤ IntKind.i64.max) (hx10 : IntKind.i64.min ≤ x1) (hx11 : x1 ≤ IntKind.i64.max) (hx20 : IntKind.i64.min ≤ x2) (hx21 : x2 ≤ IntKind.i64.max) (hy10 : IntKind.i64.min ≤ y1) (hy11 : y1 ≤ IntKind.i64.max) (hy20 : IntKind.i64.min ≤ y2) (hy21 : y2 ≤ IntKind.i64.max) (hv10 : IntKind.i64.min ≤ v1) (hv11 : v1 ≤ IntKind.i64.max) (hv20 : IntKind.i64.min ≤ v2) (hv21 : v2 ≤ IntKind.i64.max) (hv30 : IntKind.i64.min ≤ v3) (hv31 : v3 ≤ IntKind.i64.max) (hx0 : IntKind.i64.min ≤ x) (hx1 : x ≤ IntKind.i64.max) (hh0 : IntKind.i64.min ≤ h) (hh1 : h ≤ IntKind.i64.max) : Long ⟨k, ck, p0, p1, p2, s0, s1, s2, qk, x1, x2, y1, y2, v1, v2, v3, x, h⟩ := by
  have hb : IntKind.i64.min = -9223372036854775808 ∧ IntKind.i64.max = 9223372036854775807 := by decide
  rw [hb.1, hb.2] at *
  intro n hn
  simp only [qi, List.mem_cons, List.not_mem_nil, or_false] at hn
  rcases hn with rfl | rfl | rfl | rfl | rfl | rfl | rfl | rfl | rfl | rfl | rfl | rfl | rfl | rfl | rfl | rfl | rfl | rfl <;> exact ⟨by assumption, by assumption⟩
theorem apart_any (r s : Rq) (lr : Long r) (ls : Long s) : Calls Try.prog 5 #[.agg (qc r), .agg (qc s)] w fun e w' => e = .returned (.bool true) ∧ Fr Nil w w' := by
  by_cases gr : GoodQ r <;> by_cases gs : GoodQ s
  · exact apart_gg w r s lr ls gr gs
  · exact apart_gb w r s lr ls gr gs
  · exact apart_bg w r s lr ls gr gs
  · exact apart_bb w r s lr ls gr gs
end
end Go.Proofs.Ytdfggjniemncgaa.CodecL
